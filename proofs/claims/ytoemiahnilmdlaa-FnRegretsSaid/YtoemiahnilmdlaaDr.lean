/-
  Contracts: what the law on regret draws. Conditions: as stated.
-/
import Derived.Test.YtoemiahnilmdlaaDk
import Derived.Test.YtoemiahnilmdlaaSr
import Derived.Test.YtoemiahnilmdlaaWt
set_option linter.unusedVariables false
set_option linter.unusedSimpArgs false
namespace Go.E
open Go Go.RowKit Go.Proofs
theorem retc2 {P : Program} {N : Nat} {fn : Func} {R : Value → World → Prop} {e : Env} {w : World} {a s : Tmp} {t : TypeId} {p : Option Addr} {sz bytes : Nat} {zc vs : List Value} {y : Value} [ht : AggT P t] [he : ElemT P t sz bytes zc]
    (hr : fn.results = #[.cell a t, .tmp s]) (ha : find e a = some (.pointer p)) (hy : find e s = some y) (hc : Cells w p vs) (hl : vs.length = sz) (h : R (.tuple #[.agg vs.toArray, y]) w) : retQ P N fn R .ret e w :=
  ⟨_, fun ac hs => by
    obtain ⟨ad, rfl, hv⟩ := hc
    subst hl
    have := run_loadCells_list (P := P) w ad vs hv
    have h1 := (hs.val a _ ha).2
    have h2 := (hs.val s _ hy).2
    simp only [Array.getD_eq_getD_getElem?] at h1 h2
    simp [results, hr, h1, h2, loadVar, run_isAgg_t ht, run_sizeOf he, this, asAddr], h⟩
attribute [local irreducible] W WL WD WE thenE inE retQ PureOp Keep Cell Cells Blk Sl Rows Own Src Fresh
attribute [local irreducible] Cur

theorem l11Items_ok {w : World} {b : Nat} (hc : Cur w b) :
    Run Try.prog 116 [.pointer (some ⟨b, 0, none⟩)] w (fun r w' => ∃ (L : List Itm) (fi : List Nat), OwnF itemR w' w.heap.size 50 r L fi ∧ L.length ≤ 101 ∧ small L ∧ Cur w' b ∧ Wrs w w' [b]) := by
  have hbl := hc.lt
  refine Run_intro Try.func116 (by unfold CallOk; kernel_rfl) rfl Try.ntmps116 (Nat.le_of_ble_eq_true rfl) ?_
  simp only [penv, Nat.reduceAdd, Nat.zero_add]
  repeat refine zz ?_
  refine o_call rfl rfl rfl (l2Items_ok hc (by omega) (by omega)) ?_
  rintro v1 w1 ⟨L, fi, ho, hl, hsm, hc1, hw⟩
  have hz1 := hw.size
  repeat refine zz ?_
  refine o_call rfl rfl rfl (l1Once_ok hc1 (by omega)) ?_
  rintro _ w2 ⟨q, rfl, hc2, hw2⟩
  have hz2 := hw2.size
  replace hw := hw.trans hw2
  replace ho := ho.wrs hw2 hbl
  repeat refine zz ?_
  refine W_cond rfl (fun hq => ?_) (fun hq => ?_)
  · repeat refine zz ?_
    refine o_call rfl rfl rfl (l2Any_ok hc2) ?_
    rintro v3 w3 ⟨M, fj, hoM, hlM, hsmM, hc3, hw3⟩
    repeat refine zz ?_
    exact ret1 rfl rfl ⟨M, fj, hoM.below (by omega), hlM, hsmM, hc3, hw.trans hw3⟩
  · repeat refine zz ?_
    exact ret1 rfl rfl ⟨L, fi, ho, by omega, hsm, hc2, hw⟩

set_option maxHeartbeats 2000000 in
theorem DrawRegretOf_ok {w : World} {v : Value} {xs : List Int} {fp : List Nat} (hx : Sl u8R w v xs fp) (hn : xs.length ≤ 1048576) :
    Run Try.prog 22 [v] w (fun r w' => Keep w w' ∧ ∃ (u v : Value) (L : List Itm) (a : List Int) (fi fa : List Nat), r = .tuple #[u, v] ∧ Sl itemR w' u L fi ∧ L.length ≤ 101 ∧ small L ∧ Sl intR w' v a fa ∧ a.length ≤ 102) := by
  refine Run_intro Try.func22 (by unfold CallOk; kernel_rfl) rfl Try.ntmps22 (Nat.le_of_ble_eq_true rfl) ?_
  simp only [penv, Nat.reduceAdd, Nat.zero_add]
  repeat refine zz ?_
  refine o_call rfl rfl rfl (l1New_ok hx hn) ?_
  rintro _ w1 ⟨b, rfl, hb, hc, hk⟩
  have hkk : ∀ {w'}, Wrs w1 w' [b] → Keep w w' := fun h => h.keep hk (fun c hc => by simp at hc; omega)
  have hbl := hc.lt
  repeat refine zz ?_
  refine o_call rfl rfl rfl (l11Items_ok hc) ?_
  rintro v2 w2 ⟨L, fi0, ho, hl, hsm, hc2, hw⟩
  obtain ⟨fi, hs, hf⟩ := ho.sl (by decide)
  have hgb : b ∉ fi := fun hm => by have := hf.ge hm; omega
  repeat refine zz ?_
  refine o_call rfl rfl rfl (l8Ids_ok hc2 hs hgb hl) ?_
  rintro v3 w3 ⟨a, hoa, hla, hc3, hw3⟩
  replace hw := hw.trans hw3
  replace hs := hs.wrs hw3 (fun k h1 h2 => hgb (by simp at h2; exact h2 ▸ h1))
  obtain ⟨fa, hsa, _⟩ := hoa.sl (by decide)
  repeat refine zz ?_
  exact ret2 rfl rfl rfl ⟨hkk hw, _, _, L, a, fi, fa, rfl, hs, hl, hsm, hsa, hla⟩

set_option maxHeartbeats 2000000 in
theorem DrawGreedySet_ok {w : World} {v : Value} {xs : List Int} {fp : List Nat} (hx : Sl u8R w v xs fp) (hn : xs.length ≤ 1048576) :
    Run Try.prog 33 [v] w (fun r w' => Keep w w' ∧ ∃ (u : Value) (L : List Itm) (q : Int) (fi : List Nat), r = .tuple #[u, .int .i64 q] ∧ Sl itemR w' u L fi ∧ L.length ≤ 101 ∧ small L) := by
  refine Run_intro Try.func33 (by unfold CallOk; kernel_rfl) rfl Try.ntmps33 (Nat.le_of_ble_eq_true rfl) ?_
  simp only [penv, Nat.reduceAdd, Nat.zero_add]
  repeat refine zz ?_
  refine o_call rfl rfl rfl (l1New_ok hx hn) ?_
  rintro _ w1 ⟨b, rfl, hb, hc, hk⟩
  have hkk : ∀ {w'}, Wrs w1 w' [b] → Keep w w' := fun h => h.keep hk (fun c hc => by simp at hc; omega)
  have hbl := hc.lt
  repeat refine zz ?_
  refine o_call rfl rfl rfl (l11Items_ok hc) ?_
  rintro v2 w2 ⟨L, fi0, ho, hl, hsm, hc2, hw⟩
  obtain ⟨fi, hs, hf⟩ := ho.sl (by decide)
  have hgb : b ∉ fi := fun hm => by have := hf.ge hm; omega
  repeat refine zz ?_
  refine o_call rfl rfl rfl (l1Below_ok hc2 (by omega)) ?_
  rintro _ w3 ⟨q, rfl, hq0, hq1, hq2, hc3, hw3⟩
  replace hw := hw.trans hw3
  replace hs := hs.wrs hw3 (fun k h1 h2 => hgb (by simp at h2; exact h2 ▸ h1))
  repeat refine zz ?_
  exact ret2 rfl rfl rfl ⟨hkk hw, _, L, _, fi, rfl, hs, hl, hsm⟩

set_option maxHeartbeats 2000000 in
theorem DrawSmallestSet_ok {w : World} {v : Value} {xs : List Int} {fp : List Nat} (hx : Sl u8R w v xs fp) (hn : xs.length ≤ 1048576) :
    Run Try.prog 32 [v] w (fun r w' => Keep w w' ∧ ∃ (u : Value) (L : List Itm) (p q : Int) (fi : List Nat), r = .tuple #[u, .int .i64 p, .int .i64 q] ∧ Sl itemR w' u L fi ∧ L.length ≤ 101 ∧ small L) := by
  refine Run_intro Try.func32 (by unfold CallOk; kernel_rfl) rfl Try.ntmps32 (Nat.le_of_ble_eq_true rfl) ?_
  simp only [penv, Nat.reduceAdd, Nat.zero_add]
  repeat refine zz ?_
  refine o_call rfl rfl rfl (l1New_ok hx hn) ?_
  rintro _ w1 ⟨b, rfl, hb, hc, hk⟩
  have hkk : ∀ {w'}, Wrs w1 w' [b] → Keep w w' := fun h => h.keep hk (fun c hc => by simp at hc; omega)
  have hbl := hc.lt
  repeat refine zz ?_
  refine o_call rfl rfl rfl (l11Items_ok hc) ?_
  rintro v2 w2 ⟨L, fi0, ho, hl, hsm, hc2, hw⟩
  obtain ⟨fi, hs, hf⟩ := ho.sl (by decide)
  have hgb : b ∉ fi := fun hm => by have := hf.ge hm; omega
  have hz2 := hw.size
  repeat refine zz ?_
  refine o_buildSlice rfl rfl rfl rfl rfl (by simp [Value.cells]) (by omega) ?_
  intro b7 w7 hal7
  have he7 := hal7.b_eq
  have hs7 : Sl intR w7 (.slice (some ⟨b7, 0, none⟩) 5 5) [-1, 0, 1, 2, 5] [b7] := Sl.ofInts (xs := [-1, 0, 1, 2, 5]) hal7.blk (fun i hi => by
    rcases (show i = 0 ∨ i = 1 ∨ i = 2 ∨ i = 3 ∨ i = 4 by simp at hi; omega) with rfl | rfl | rfl | rfl | rfl <;> rfl) rfl (Nat.le_refl _) (by omega)
  replace hw := hw.keepR hal7.kp
  replace hc2 := hc2.keep hal7.kp
  replace hs := hs.keep hal7.kp
  repeat refine zz ?_
  refine o_call rfl rfl rfl (l1PickInt_ok hc2 hs7 (by simp; omega) (by simp) (by simp)) ?_
  rintro _ w8 ⟨i8, hi8, rfl, hc8, hw8⟩
  replace hw := hw.trans hw8
  replace hs := hs.wrs hw8 (fun k h1 h2 => hgb (by simp at h2; exact h2 ▸ h1))
  have hz8 := hw.size
  repeat refine zz ?_
  refine o_buildSlice rfl rfl rfl rfl rfl (by simp [Value.cells]) (by omega) ?_
  intro b9 w9 hal9
  have he9 := hal9.b_eq
  have hs9 : Sl intR w9 (.slice (some ⟨b9, 0, none⟩) 6 6) [0, 1, 2, 4, 10, 101] [b9] := Sl.ofInts (xs := [0, 1, 2, 4, 10, 101]) hal9.blk (fun i hi => by
    rcases (show i = 0 ∨ i = 1 ∨ i = 2 ∨ i = 3 ∨ i = 4 ∨ i = 5 by simp at hi; omega) with rfl | rfl | rfl | rfl | rfl | rfl <;> rfl) rfl (Nat.le_refl _) (by omega)
  replace hw := hw.keepR hal9.kp
  replace hc8 := hc8.keep hal9.kp
  replace hs := hs.keep hal9.kp
  repeat refine zz ?_
  refine o_call rfl rfl rfl (l1PickInt_ok hc8 hs9 (by simp; omega) (by simp) (by simp)) ?_
  rintro _ wA ⟨iA, hiA, rfl, hcA, hwA⟩
  replace hw := hw.trans hwA
  replace hs := hs.wrs hwA (fun k h1 h2 => hgb (by simp at h2; exact h2 ▸ h1))
  repeat refine zz ?_
  exact ret3 rfl rfl rfl rfl ⟨hkk hw, _, L, _, _, fi, rfl, hs, hl, hsm⟩

set_option maxHeartbeats 4000000 in
theorem DrawUtilityOf_ok {w : World} {v : Value} {xs : List Int} {fp : List Nat} (hx : Sl u8R w v xs fp) (hn : xs.length ≤ 1048576) :
    Run Try.prog 34 [v] w (fun r w' => Keep w w' ∧ ∃ (x : Itm) (u v : Value) (ws : List Int) (fu fw : List Nat), r = .tuple #[.agg #[.int .i64 x.id, u], v] ∧ Sl intR w' u x.vals fu ∧ x.vals.length ≤ 4 ∧ Sl intR w' v ws fw ∧ ws.length = 3) := by
  refine Run_intro Try.func34 (by unfold CallOk; kernel_rfl) rfl Try.ntmps34 (Nat.le_of_ble_eq_true rfl) ?_
  simp only [penv, Nat.reduceAdd, Nat.zero_add]
  repeat refine zz ?_
  refine o_alloc rfl rfl ?_
  intro b2 w0 hal2
  have hb2 := hal2.blk
  have he2 := hal2.b_eq
  have hz2 := hal2.size
  have hk := hal2.kp
  replace hx := hx.keep hk
  repeat refine zz ?_
  refine o_call rfl rfl rfl (l1New_ok hx hn) ?_
  rintro _ w1 ⟨b, rfl, hb, hc, hk1⟩
  replace hb2 := hb2.keep hk1
  replace hk := hk.keep hk1
  have hbl := hc.lt
  have hz1 := hk1.size_le
  have hbn : ∀ c, c ∈ [b] → w.heap.size ≤ c := fun c hc => by simp at hc; omega
  repeat refine zz ?_
  refine o_call rfl rfl rfl (l2AnyItem_ok hc) ?_
  rintro _ w3 ⟨id, u, us, rfl, hou, hlu, hc3, hw3⟩
  have hz3 := hw3.size
  replace hk := hw3.keep hk hbn
  replace hb2 := hb2.wrs hw3 (by simp; omega)
  obtain ⟨Au, nu, cu, rfl, hnu, _⟩ := hou.split
  have hown0 := fun c hc => hou.lt (b := c) hc
  repeat refine zz ?_
  refine o_alloc rfl rfl ?_
  intro b5 w4 hal5
  have hb5 := hal5.blk
  have he5 := hal5.b_eq
  have hz5 := hal5.size
  replace hk := hk.keep hal5.kp
  replace hc3 := hc3.keep hal5.kp
  replace hb2 := hb2.keep hal5.kp
  replace hou := hou.keep hal5.kp
  repeat refine zz ?_
  refine o_storeS (b := b5) (off := 0) rfl rfl rfl rfl (by repeat (first | exact ones_nil | refine ones_cons (by first | rfl | assumption) ?_)) rfl hb5 (by simp) ?_
  intro w5 hu5
  have hb5' : Blk w5 b5 50 [.int .i64 id, .slice Au nu cu] := hu5.blk
  have hz55 := hu5.size
  have hown : ∀ c, (Value.slice Au nu cu).ownBlock = some c → w1.heap.size ≤ c ∧ c < b5 := fun c hc => by have h1 := hown0 c hc; exact ⟨h1.1, by omega⟩
  replace hk := hk.upd hu5 (by omega)
  replace hc3 := hc3.upd hu5 (by omega)
  replace hb2 := hb2.upd hu5 (by omega)
  replace hou := hou.upd hu5 (fun e => by have := hown _ e; omega) (by simp)
  clear hu5 hb5 hal5
  repeat refine zz ?_
  refine o_buildSlice rfl rfl rfl rfl rfl (by intro p hp; cases hp) (by omega) ?_
  intro bO wO halO
  have hkO := halO.kp
  have zO := halO.b_eq
  have sO := halO.size
  have ho : OwnF intR wO w5.heap.size 3 (.slice (some ⟨bO, 0, none⟩) 0 0) [] [] := OwnF.made halO.blk (by omega)
  replace hk := hk.keep hkO
  replace hc3 := hc3.keep hkO
  replace hb2 := hb2.keep hkO
  replace hou := hou.keep hkO
  replace hb5' := hb5'.keep hkO
  repeat refine zz ?_
  refine o_call rfl rfl rfl (spec_WeightLists_ok wO) ?_
  rintro vwl w7 ⟨k7, fwl, hwl, hfwl⟩
  replace hk := hk.keep k7
  replace hc3 := hc3.keep k7
  replace hb2 := hb2.keep k7
  replace hou := hou.keep k7
  replace hb5' := hb5'.keep k7
  replace ho := ho.keep k7
  have z7 := k7.size_le
  obtain ⟨Aw, nw, cw, rfl, hnw⟩ := hwl.split
  rw [wls_len] at hnw
  have hbw : b ∉ fwl := fun hm => by have := hfwl.ge hm; omega
  repeat refine zz ?_
  refine o_call rfl rfl rfl (l1Below_ok hc3 (by omega)) ?_
  rintro _ w8 ⟨q, rfl, hq0, hq1, hq2, hc8, hw8⟩
  have hq3 := hq2 (by omega)
  have z8 := hw8.size
  replace hk := hw8.keep hk hbn
  replace hb2 := hb2.wrs hw8 (by simp; omega)
  replace hou := hou.wrs hw8 (by omega)
  replace hb5' := hb5'.wrs hw8 (by simp; omega)
  replace ho := ho.wrs hw8 (by omega)
  replace hwl := hwl.wrs hw8 (fun k h1 h2 => hbw (by simp at h2; exact h2 ▸ h1))
  obtain ⟨m, rfl⟩ : ∃ m : Nat, q = (m : Int) := ⟨q.toNat, by omega⟩
  obtain ⟨hAw, ux, fx, hcx, hux, _⟩ := slR_get hwl (i := (m : Int)) (by omega) (by omega)
  have hl3 := wl_len3 m (by omega)
  obtain ⟨Ax, nx, cx, rfl, hnx⟩ := hux.split
  obtain ⟨gx, hsrc, _⟩ := hux.src
  obtain rfl := hsrc.nofp
  repeat refine zz ?_
  refine o_appendF (R := intR) (M := w8.heap.size) (gi := []) rfl rfl rfl rfl rfl (by decide) ho hsrc hnx (Fresh.nil _ _) (fun b hb => by simp at hb) (fun b hb => (ho.lt hb).2) (fun b hb => by simp at hb) (by simp only [List.length_nil]; omega) (by simp only [List.length_nil]; omega) (by omega) ?_
  intro v9 w9 how hb9 hg9
  rw [List.nil_append] at how
  have hrow := fun c hc => (ho.lt (b := c) hc).1
  replace hk := hk.grown hg9 (fun c hc => by have := hrow c hc; omega)
  replace hc8 := hc8.grown hg9 (fun c hc => by have := hrow c hc; omega)
  replace hb2 := hb2.grown hg9 (fun e => by have := hrow _ e.symm; omega)
  replace hb5' := hb5'.grown hg9 (fun e => by have := hrow _ e.symm; omega)
  replace hou := hou.grown hg9 (fun c hc => ⟨fun e => by have := hrow c hc; have := hown _ e; omega, by simp⟩)
  repeat refine zz ?_
  refine o_call rfl rfl rfl (l1Once_ok hc8 (by omega)) ?_
  rintro _ wA ⟨q2, rfl, hcA, hwA⟩
  have zA := hwA.size
  replace hk := hwA.keep hk hbn
  replace hb2 := hb2.wrs hwA (by simp; omega)
  replace hb5' := hb5'.wrs hwA (by simp; omega)
  replace hou := hou.wrs hwA (by omega)
  replace how := how.wrs hwA (by omega)
  generalize gi weightLists (m : Int) = ws at *
  repeat refine zz ?_
  refine W_cond rfl (fun hq4 => ?_) (fun hq4 => ?_)
  · obtain ⟨bo, cap, cl, hve, hbo, hblo, hcl, hcap, hcg, hst⟩ := how.stI (by intro e; rw [e] at hl3; cases hl3)
    subst hve
    repeat refine zz ?_
    refine o_buildSlice rfl rfl rfl rfl rfl (by simp [Value.cells]) (by omega) ?_
    intro bB wB halB
    have heB := halB.b_eq
    have hsB : Sl intR wB (.slice (some ⟨bB, 0, none⟩) 2 2) [-1, 4] [bB] := Sl.ofInts (xs := [-1, 4]) halB.blk (fun i hi => by
      rcases (show i = 0 ∨ i = 1 by simp at hi; omega) with rfl | rfl <;> rfl) rfl (Nat.le_refl _) (by omega)
    replace hk := hk.keep halB.kp
    have hcl2 := hcA.lt
    replace hcA := hcA.keep halB.kp
    replace hb2 := hb2.keep halB.kp
    replace hou := hou.keep halB.kp
    replace hb5' := hb5'.keep halB.kp
    replace how := how.keep halB.kp
    repeat refine zz ?_
    refine o_call rfl rfl rfl (l1PickInt_ok hcA hsB (by simp; omega) (by simp) (by simp)) ?_
    rintro _ wD ⟨iD, hiD, rfl, hcD, hwD⟩
    replace hk := hwD.keep hk hbn
    replace hb2 := hb2.wrs hwD (by simp; omega)
    replace hb5' := hb5'.wrs hwD (by simp; omega)
    replace hou := hou.wrs hwD (by omega)
    replace how := how.wrs hwD (by omega)
    obtain ⟨bo', cap', cl', hve', hbo', hblo', hcl', hcap', hcg', hst'⟩ := how.stI (by intro e; rw [e] at hl3; cases hl3)
    simp only [Value.slice.injEq, Option.some.injEq, Addr.mk.injEq, and_true] at hve'
    obtain ⟨rfl, _, rfl⟩ := hve'
    generalize gi ([-1, 4] : List Int) (iD : Int) = v8 at *
    repeat refine zz ?_
    refine o_store1 (b := bo) (off := 0) rfl rfl rfl rfl rfl hblo' (by omega) ?_
    intro wE huE
    have how9 := hst' wE 0 v8 (by omega) huE
    have zE := hk.size_le
    replace hk := hk.upd huE (by omega)
    replace hb2 := hb2.upd huE (by omega)
    replace hb5' := hb5'.upd huE (by omega)
    replace hou := hou.upd huE (fun e => by have := hown _ e; omega) (by simp)
    clear how
    have how := how9
    have hlw : (ws.set 0 v8).length = 3 := by rw [List.length_set]; exact hl3
    repeat refine zz ?_
    have zZ := hk.size_le
    refine o_storeS (b := b2) (off := 0) rfl rfl rfl rfl (by repeat (first | exact ones_nil | refine ones_cons (by first | rfl | assumption) ?_)) rfl hb2 (by simp) ?_
    intro wZ huZ
    have hbZ : Blk wZ b2 50 [.int .i64 id, .slice Au nu cu] := huZ.blk
    replace hk := hk.upd huZ (by omega)
    replace hou := hou.upd huZ (fun e => by have := (hou.lt e).1; omega) (by simp)
    have how2 := how.upd huZ (fun e => by have := (how.lt e).1; omega) (by simp)
    obtain ⟨fu, hsu, _⟩ := hou.sl (by decide)
    obtain ⟨fw, hsw, _⟩ := how2.sl (by decide)
    repeat refine zz ?_
    exact retc2 rfl rfl rfl hbZ.cells rfl ⟨hk, ⟨id, us⟩, _, _, _, fu, fw, rfl, hsu, by omega, hsw, hlw⟩
  · have hlw := hl3
    repeat refine zz ?_
    have zZ := hk.size_le
    refine o_storeS (b := b2) (off := 0) rfl rfl rfl rfl (by repeat (first | exact ones_nil | refine ones_cons (by first | rfl | assumption) ?_)) rfl hb2 (by simp) ?_
    intro wZ huZ
    have hbZ : Blk wZ b2 50 [.int .i64 id, .slice Au nu cu] := huZ.blk
    replace hk := hk.upd huZ (by omega)
    replace hou := hou.upd huZ (fun e => by have := (hou.lt e).1; omega) (by simp)
    have how2 := how.upd huZ (fun e => by have := (how.lt e).1; omega) (by simp)
    obtain ⟨fu, hsu, _⟩ := hou.sl (by decide)
    obtain ⟨fw, hsw, _⟩ := how2.sl (by decide)
    repeat refine zz ?_
    exact retc2 rfl rfl rfl hbZ.cells rfl ⟨hk, ⟨id, us⟩, _, _, _, fu, fw, rfl, hsu, by omega, hsw, hlw⟩
end Go.E
