/-
  Contracts: what the laws on groups draw. Conditions: as stated.
-/
import Derived.Test.YtoemiahnilmdlaaGd
set_option linter.unusedVariables false
set_option linter.unusedSimpArgs false
namespace Go.E
open Go Go.RowKit Go.Proofs
/-- a few short expressions -/
def smallG (G : List (List Nod)) : Prop := G.length ≤ 6 ∧ ∀ E, E ∈ G → E.length ≤ 8 ∧ smallE E
theorem smallG_tot {G : List (List Nod)} (h : smallG G) : G.length + totNS G ≤ 1048576 := by
  have : ∀ G : List (List Nod), (∀ E, E ∈ G → E.length ≤ 8 ∧ smallE E) → totNS G ≤ 10000 * G.length := by
    intro G
    induction G with
    | nil => intro _; simp [totNS]
    | cons x r ih =>
      intro h
      have h1 := h x (by simp)
      have h2 := ih fun y hy => h y (List.mem_cons_of_mem _ hy)
      have h3 := smallE_tot h1.2
      simp only [totNS, List.length_cons]; omega
  have := this G h.2
  have := h.1
  omega
theorem smallG_snoc {G : List (List Nod)} {E : List Nod} {n : Nat} (h : ∀ E, E ∈ G → E.length ≤ 8 ∧ smallE E) (he : E.length ≤ 8 ∧ smallE E) : ∀ F, F ∈ G ++ [E] → F.length ≤ 8 ∧ smallE F := fun F hF => by
  rcases List.mem_append.1 hF with h1 | h1
  · exact h F h1
  · rw [List.mem_singleton] at h1; rw [h1]; exact he
/-- the lists of a row of one's own lie among blocks made since -/
structure OwnG (w : World) (base : Nat) (v : Value) (G : List (List Nod)) : Prop where
  ex : ∃ fi, Own (slR nodeR) w base 57 v G fi ∧ (∀ b, b ∈ fi → base ≤ b) ∧ ∀ b, v.ownBlock = some b → b ∉ fi
theorem OwnG.keep {w w' : World} {base : Nat} {v : Value} {G : List (List Nod)} (h : OwnG w base v G) (k : Keep w w') : OwnG w' base v G := by
  obtain ⟨fi, h1, h2, h3⟩ := h.ex; exact ⟨fi, h1.keep k, h2, h3⟩
theorem OwnG.wrs {w w' : World} {base : Nat} {v : Value} {G : List (List Nod)} (h : OwnG w base v G) {b : Nat} (k : Wrs w w' [b]) (hb : b < base) : OwnG w' base v G := by
  obtain ⟨fi, h1, h2, h3⟩ := h.ex
  exact ⟨fi, h1.wrs k (fun e => by have := (h1.lt e).1; omega) (fun hm => by have := h2 b hm; omega), h2, h3⟩
theorem OwnG.sl {w : World} {base : Nat} {v : Value} {G : List (List Nod)} (h : OwnG w base v G) : ∃ f, Sl (slR nodeR) w v G f ∧ ∀ b, b ∈ f → base ≤ b := by
  obtain ⟨fi, h1, h2, h3⟩ := h.ex
  obtain ⟨f, h4, h5, _⟩ := h1.sl (by decide)
  exact ⟨f, h4, fun b hb => (h5 b hb).elim (fun e => (h1.lt e).1) (h2 b)⟩
theorem OwnG.lt {w : World} {base : Nat} {v : Value} {G : List (List Nod)} (h : OwnG w base v G) : ∀ c, v.ownBlock = some c → base ≤ c ∧ c < w.heap.size := by
  obtain ⟨fi, h1, h2, h3⟩ := h.ex; exact fun c hc => h1.lt hc
theorem OwnG.next {w w' : World} {base : Nat} {v v' : Value} {G : List (List Nod)} {E : List Nod} {fi f : List Nat} (hn : Own (slR nodeR) w' base 57 v' (G ++ [E]) (fi ++ f)) (hfi : ∀ b, b ∈ fi → base ≤ b) (hf : ∀ b, b ∈ f → base ≤ b) (hout : ∀ c, v.ownBlock = some c → c ∉ fi ∧ c ∉ f) (hup : ∀ b, b ∈ fi ++ f → b < w.heap.size) (hv : v'.ownBlock = v.ownBlock ∨ v'.ownBlock = some w.heap.size) : OwnG w' base v' (G ++ [E]) :=
  ⟨fi ++ f, hn, fun b hb => (List.mem_append.1 hb).elim (hfi b) (hf b), fun c hc hm => by
    rcases hv with h | h
    · have := hout c (h ▸ hc)
      exact (List.mem_append.1 hm).elim this.1 this.2
    · rw [h] at hc; simp only [Option.some.injEq] at hc
      have := hup c hm; omega⟩
attribute [local irreducible] W WL WD WE thenE inE retQ PureOp Keep Cell Cells Blk Sl Rows Own Src Fresh
attribute [local irreducible] Cur

set_option maxHeartbeats 2000000 in
theorem l12Voters_ok {w : World} {b : Nat} (hc : Cur w b) :
    Run Try.prog 236 [.pointer (some ⟨b, 0, none⟩)] w (fun r w' => ∃ (G : List (List Nod)), OwnG w' w.heap.size r G ∧ G.length ≤ 4 ∧ (∀ E, E ∈ G → E.length ≤ 8 ∧ smallE E) ∧ Cur w' b ∧ Wrs w w' [b]) := by
  have hbl := hc.lt
  refine Run_intro Try.func236 (by unfold CallOk; kernel_rfl) rfl Try.ntmps236 (Nat.le_of_ble_eq_true rfl) ?_
  simp only [penv, Nat.reduceAdd, Nat.zero_add]
  repeat refine zz ?_
  refine o_buildSlice rfl rfl rfl rfl rfl (by intro p hp; cases hp) (by omega) ?_
  intro b3 w1 hal
  have he := hal.b_eq
  have hw : Wrs w w1 [b] := hal.kp.wrs
  have ho : OwnG w1 w.heap.size (.slice (some ⟨b3, 0, none⟩) 0 0) [] := ⟨[], Own.made hal.blk (by simp) (Nat.zero_le _) (by omega), by simp, by simp⟩
  replace hc := hc.keep hal.kp
  repeat refine zz ?_
  refine o_call rfl rfl rfl (l1Below_ok hc (by omega)) ?_
  rintro _ w2 ⟨q, rfl, hq0, hq1, hq2, hc2, hw2⟩
  have hq3 := hq2 (by omega)
  replace hw := hw.trans hw2
  replace ho := ho.wrs hw2 (by omega)
  repeat refine zz ?_
  refine W_loop (S := Nat × Value × List (List Nod)) (fun s => [(0, .pointer (some ⟨b, 0, none⟩)), (3, s.2.1), (4, .int .i64 (1 + q - (s.1 : Int)))]) (fun s w' => Wrs w w' [b] ∧ Cur w' b ∧ ((s.1 : Int) ≤ 1 + q ∧ s.2.2.length ≤ s.1 ∧ ∀ E, E ∈ s.2.2 → E.length ≤ 8 ∧ smallE E) ∧ OwnG w' w.heap.size s.2.1 s.2.2) (fun s => (1 + q - (s.1 : Int)).toNat) (0, _, []) ⟨rfl, rfl, find_int rfl (by dsimp only; omega), trivial⟩ ⟨hw, hc2, ⟨by dsimp only; omega, Nat.le_refl _, by simp⟩, ho⟩ ?_
  clear hw hc hc2 ho
  rintro ⟨k, va, G⟩ wa ⟨hwa, hca, ⟨hk, hgl, hgs⟩, hoa⟩
  dsimp only at hk hgl hgs hoa ⊢
  have hza := hwa.size
  have hlt := hoa.lt
  repeat refine zz ?_
  refine W_cond rfl (fun hd => ?_) (fun hd => ?_)
  · have hkl : (k : Int) < 1 + q := by simp at hd; omega
    repeat refine zz ?_
    refine o_call rfl rfl rfl (l5Expression_ok hca) ?_
    rintro vE w3 ⟨E, fe, hoE, hlE, _, hsE, hc3, hw3⟩
    replace hwa := hwa.trans hw3
    replace hoa := hoa.wrs hw3 (by omega)
    obtain ⟨f, hsf, hff⟩ := hoE.sl (by decide)
    have hz3 := hw3.size
    have o3 := hsf.oneCell
    obtain ⟨AE, nE, cE, rfl, hnE⟩ := hsf.split
    repeat refine zz ?_
    refine o_buildSlice rfl rfl rfl rfl rfl (by simp [Value.cells]) (by omega) ?_
    intro b5 w5 hal5
    have hz5 := hal5.size
    have hb5 : Blk w5 b5 57 [.slice AE nE cE] := by simpa [Value.cells] using hal5.blk
    replace hwa := hwa.keepR hal5.kp
    replace hoa := hoa.keep hal5.kp
    replace hc3 := hc3.keep hal5.kp
    replace hsf := hsf.keep hal5.kp
    obtain ⟨fi, hown, hfi, hout⟩ := hoa.ex
    have hup := hsf.dom
    repeat refine zz ?_
    refine o_append (R := slR nodeR) rfl rfl rfl rfl rfl (by decide) hown (Blk.src (xs := [E]) hb5 (Rows.single (R := slR nodeR) ⟨_, rfl, hsf⟩)) rfl (fun c hc => ⟨hout c hc, fun hm => by have := (hlt c hc).2; have := hff.ge hm; omega⟩) (by simp only [List.length_cons, List.length_nil]; omega) (by simp only [List.length_cons, List.length_nil]; omega) (by omega) ?_
    intro vN w6 hN hg6 hvN
    have hrow := fun c hc => (hlt c hc).1
    have hupa : ∀ b, b ∈ fi ++ f → b < w5.heap.size := fun b hb => (List.mem_append.1 hb).elim (hown.dom b) (hup b)
    repeat refine zz ?_
    refine ⟨(k + 1, vN, G ++ [E]), ⟨rfl, rfl, find_int rfl (by dsimp only; omega), trivial⟩, ⟨hwa.grown hg6 hrow, hc3.grown hg6 (fun c hc => by have := hrow c hc; omega), ⟨by dsimp only; omega, by simp only [List.length_append, List.length_cons, List.length_nil]; omega, smallG_snoc (n := 0) hgs ⟨by omega, hsE⟩⟩, ?_⟩, by dsimp only; omega⟩
    exact OwnG.next hN hfi (fun b hb => by have := hff.ge hb; omega) (fun c hc => ⟨hout c hc, fun hm => by have := (hlt c hc).2; have := hff.ge hm; omega⟩) hupa hvN
  · repeat refine zz ?_
    exact ret1 rfl rfl ⟨G, hoa, by omega, hgs, hca, hwa⟩

set_option maxHeartbeats 2000000 in
theorem l12Draw_ok {w : World} {b : Nat} (hc : Cur w b) :
    Run Try.prog 194 [.pointer (some ⟨b, 0, none⟩)] w (fun r w' => ∃ (u v : Value) (L : List Itm) (G : List (List Nod)) (fi gj : List Nat), r = .tuple #[u, v] ∧ Sl itemR w' u L fi ∧ (∀ c, c ∈ fi → w.heap.size ≤ c) ∧ L.length ≤ 101 ∧ small L ∧ Sl (slR nodeR) w' v G gj ∧ (∀ c, c ∈ gj → w.heap.size ≤ c) ∧ smallG G ∧ Cur w' b ∧ Wrs w w' [b]) := by
  have hbl := hc.lt
  have hw : Wrs w w [b] := Wrs.refl _
  refine Run_intro Try.func194 (by unfold CallOk; kernel_rfl) rfl Try.ntmps194 (Nat.le_of_ble_eq_true rfl) ?_
  simp only [penv, Nat.reduceAdd, Nat.zero_add]
  repeat refine zz ?_
  refine o_call rfl rfl rfl (l2Items_ok hc (by omega) (by omega)) ?_
  rintro _ w1 ⟨L, fi, ho, hl, hsm, hc1, hw1⟩
  have hz1 := hw1.size
  replace hw := hw.trans hw1
  clear hc
  obtain ⟨fp, hs, hf⟩ := ho.sl (by decide)
  have hg : ∀ c, c ∈ fp → w.heap.size ≤ c := fun c hc => hf.ge hc
  have hgb : b ∉ fp := fun hm => by have := hg _ hm; omega
  have hfpd := hs.dom
  clear ho hf
  repeat refine zz ?_
  refine o_call rfl rfl rfl (l12Voters_ok hc1) ?_
  rintro vG w2 ⟨G, hG, hGl, hGs, hc, hw2⟩
  have hz2 := hw2.size
  replace hw := hw.trans hw2
  replace hs := hs.wrs hw2 (fun k h1 h2 => hgb (by simp at h2; exact h2 ▸ h1))
  clear hc1
  repeat refine zz ?_
  refine o_call rfl rfl rfl (l1Below_ok hc (by omega)) ?_
  rintro _ w3 ⟨q, rfl, hq0, hq1, hq2, hc3, hw3⟩
  have hz3 := hw3.size
  replace hw := hw.trans hw3
  replace hs := hs.wrs hw3 (fun k h1 h2 => hgb (by simp at h2; exact h2 ▸ h1))
  replace hG := hG.wrs hw3 (by omega)
  clear hc
  obtain ⟨gj, hsG, hgG⟩ := hG.sl
  have hgbG : b ∉ gj := fun hm => by have := hgG _ hm; omega
  have hgG' : ∀ c, c ∈ gj → w.heap.size ≤ c := fun c hc => by have := hgG c hc; omega
  repeat refine zz ?_
  refine W_cond rfl (fun h0 => ?_) (fun h0 => ?_)
  · repeat refine zz ?_
    refine o_call rfl rfl rfl (l2Any_ok hc3) ?_
    rintro _ w4 ⟨M, fm, hoM, hlM, hsM, hc4, hw4⟩
    replace hw := hw.trans hw4
    replace hsG := hsG.wrs hw4 (fun k h1 h2 => hgbG (by simp at h2; exact h2 ▸ h1))
    obtain ⟨fr, hsr, hfr⟩ := hoM.sl (by decide)
    repeat refine zz ?_
    exact ret2 rfl rfl rfl ⟨_, _, M, G, fr, gj, rfl, hsr, fun c hc => by have := hfr.ge hc; omega, hlM, hsM, hsG, hgG', ⟨by omega, hGs⟩, hc4, hw⟩
  repeat refine zz ?_
  refine W_cond rfl (fun h1 => ?_) (fun h1 => ?_)
  · repeat refine zz ?_
    have hlt := hG.lt
    refine o_call rfl rfl rfl (l5Any_ok hc3) ?_
    rintro vF w4 ⟨F, fm, hsF, hgF, hlF, hsmF, hc4, hw4⟩
    have hz4 := hw4.size
    replace hw := hw.trans hw4
    replace hs := hs.wrs hw4 (fun k h1 h2 => hgb (by simp at h2; exact h2 ▸ h1))
    replace hG := hG.wrs hw4 (by omega)
    have oF := hsF.oneCell
    obtain ⟨AF, nF, cF, rfl, hnF⟩ := hsF.split
    repeat refine zz ?_
    refine o_buildSlice rfl rfl rfl rfl rfl (by simp [Value.cells]) (by omega) ?_
    intro b5 w5 hal5
    have hb5 : Blk w5 b5 57 [.slice AF nF cF] := by simpa [Value.cells] using hal5.blk
    have hz5 := hal5.size
    replace hw := hw.keepR hal5.kp
    replace hG := hG.keep hal5.kp
    replace hs := hs.keep hal5.kp
    replace hc4 := hc4.keep hal5.kp
    replace hsF := hsF.keep hal5.kp
    obtain ⟨fi, hown, hfi, hout⟩ := hG.ex
    have hup := hsF.dom
    repeat refine zz ?_
    refine o_append (R := slR nodeR) rfl rfl rfl rfl rfl (by decide) hown (Blk.src (xs := [F]) hb5 (Rows.single (R := slR nodeR) ⟨_, rfl, hsF⟩)) rfl (fun c hc => ⟨hout c hc, fun hm => by have := (hlt c hc).2; have := hgF c hm; omega⟩) (by simp only [List.length_cons, List.length_nil]; omega) (by simp only [List.length_cons, List.length_nil]; omega) (by omega) ?_
    intro vN w6 hN hg6 hvN
    have hrow := fun c hc => (hlt c hc).1
    have hupa : ∀ b, b ∈ fi ++ fm → b < w5.heap.size := fun b hb => (List.mem_append.1 hb).elim (hown.dom b) (hup b)
    have hNG := OwnG.next hN hfi (fun b hb => by have := hgF b hb; omega) (fun c hc => ⟨hout c hc, fun hm => by have := (hlt c hc).2; have := hgF c hm; omega⟩) hupa hvN
    obtain ⟨gk, hsN, hgN⟩ := hNG.sl
    repeat refine zz ?_
    exact ret2 rfl rfl rfl ⟨_, _, L, G ++ [F], fp, gk, rfl, hs.grownN hg6 (fun c hc hm => by have := (hlt c hc).1; have := hfpd c hm; omega), hg, by omega, hsm, hsN, fun c hc => by have := hgN c hc; omega, ⟨by simp only [List.length_append, List.length_cons, List.length_nil]; omega, smallG_snoc (n := 0) hGs ⟨hlF, hsmF⟩⟩, hc4.grown hg6 (fun c hc => by have := hrow c hc; omega), hw.grown hg6 (fun c hc => by have := hrow c hc; omega)⟩
  repeat refine zz ?_
  refine W_cond rfl (fun h2 => ?_) (fun h2 => ?_)
  · repeat refine zz ?_
    refine o_buildSlice rfl rfl rfl rfl rfl (by intro p hp; cases hp) (by omega) ?_
    intro b5 w5 hal5
    repeat refine zz ?_
    exact ret2 rfl rfl rfl ⟨_, _, L, [], fp, [], rfl, hs.keep hal5.kp, hg, by omega, hsm, Sl.nil (by omega) _, by simp, ⟨by simp, by simp⟩, hc3.keep hal5.kp, hw.keepR hal5.kp⟩
  · repeat refine zz ?_
    exact ret2 rfl rfl rfl ⟨_, _, L, G, fp, gj, rfl, hs, hg, by omega, hsm, hsG, hgG', ⟨by omega, hGs⟩, hc3, hw⟩
set_option maxHeartbeats 2000000 in
theorem DrawCondorcetOf_ok {w : World} {v : Value} {xs : List Int} {fp : List Nat} (hx : Sl u8R w v xs fp) (hn : xs.length ≤ 1048576) :
    Run Try.prog 84 [v] w (fun r w' => Keep w w' ∧ ∃ (u v : Value) (L : List Itm) (G : List (List Nod)) (fi gj : List Nat), r = .tuple #[u, v] ∧ Sl itemR w' u L fi ∧ L.length ≤ 101 ∧ small L ∧ Sl (slR nodeR) w' v G gj ∧ smallG G) := by
  refine Run_intro Try.func84 (by unfold CallOk; kernel_rfl) rfl Try.ntmps84 (Nat.le_of_ble_eq_true rfl) ?_
  simp only [penv, Nat.reduceAdd, Nat.zero_add]
  repeat refine zz ?_
  refine o_call rfl rfl rfl (l1New_ok hx hn) ?_
  rintro _ w1 ⟨b, rfl, hb, hc, hk⟩
  have hkk : ∀ {w'}, Wrs w1 w' [b] → Keep w w' := fun h => h.keep hk (fun c hc => by simp at hc; omega)
  repeat refine zz ?_
  refine o_call rfl rfl rfl (l12Draw_ok hc) ?_
  rintro _ w2 ⟨u, v, L, G, fi, gj, rfl, hs, hgs, hl, hsm, hsG, hgG, hsmG, hc2, hw⟩
  have hgb : b ∉ fi := fun hm => by have := hgs _ hm; have := hc.lt; omega
  have hgbG : b ∉ gj := fun hm => by have := hgG _ hm; have := hc.lt; omega
  repeat refine zz ?_
  exact ret2 rfl rfl rfl ⟨hkk hw, _, _, L, G, fi, gj, rfl, hs, hl, hsm, hsG, hsmG⟩

set_option maxHeartbeats 2000000 in
theorem DrawVetoFree_ok {w : World} {v : Value} {xs : List Int} {fp : List Nat} (hx : Sl u8R w v xs fp) (hn : xs.length ≤ 1048576) :
    Run Try.prog 96 [v] w (fun r w' => Keep w w' ∧ ∃ (u v : Value) (L : List Itm) (G : List (List Nod)) (fi gj : List Nat) (q : Int), r = .tuple #[u, v, .int .i64 q] ∧ Sl itemR w' u L fi ∧ L.length ≤ 101 ∧ small L ∧ Sl (slR nodeR) w' v G gj ∧ smallG G ∧ -1 ≤ q ∧ q ≤ 255) := by
  refine Run_intro Try.func96 (by unfold CallOk; kernel_rfl) rfl Try.ntmps96 (Nat.le_of_ble_eq_true rfl) ?_
  simp only [penv, Nat.reduceAdd, Nat.zero_add]
  repeat refine zz ?_
  refine o_call rfl rfl rfl (l1New_ok hx hn) ?_
  rintro _ w1 ⟨b, rfl, hb, hc, hk⟩
  have hkk : ∀ {w'}, Wrs w1 w' [b] → Keep w w' := fun h => h.keep hk (fun c hc => by simp at hc; omega)
  repeat refine zz ?_
  refine o_call rfl rfl rfl (l12Draw_ok hc) ?_
  rintro _ w2 ⟨u, v, L, G, fi, gj, rfl, hs, hgs, hl, hsm, hsG, hgG, hsmG, hc2, hw⟩
  have hgb : b ∉ fi := fun hm => by have := hgs _ hm; have := hc.lt; omega
  have hgbG : b ∉ gj := fun hm => by have := hgG _ hm; have := hc.lt; omega
  repeat refine zz ?_
  refine o_call rfl rfl rfl (l1Below_ok hc2 (by omega)) ?_
  rintro _ w3 ⟨y, rfl, hy0, hy1, hy2, hc3, hw3⟩
  replace hw := hw.trans hw3
  replace hs := hs.wrs hw3 (fun k h1 h2 => hgb (by simp at h2; exact h2 ▸ h1))
  replace hsG := hsG.wrs hw3 (fun k h1 h2 => hgbG (by simp at h2; exact h2 ▸ h1))
  repeat refine zz ?_
  exact ret3 rfl rfl rfl rfl ⟨hkk hw, _, _, L, G, fi, gj, _, rfl, hs, hl, hsm, hsG, hsmG, by omega, by omega⟩

set_option maxHeartbeats 2000000 in
theorem DrawGroupChoice_ok {w : World} {v : Value} {xs : List Int} {fp : List Nat} (hx : Sl u8R w v xs fp) (hn : xs.length ≤ 1048576) :
    Run Try.prog 97 [v] w (fun r w' => Keep w w' ∧ ∃ (u v : Value) (L : List Itm) (G : List (List Nod)) (fi gj : List Nat) (q : Int), r = .tuple #[u, v, .int .i64 q] ∧ Sl itemR w' u L fi ∧ L.length ≤ 101 ∧ small L ∧ Sl (slR nodeR) w' v G gj ∧ smallG G ∧ -1 ≤ q ∧ q ≤ 255) := by
  refine Run_intro Try.func97 (by unfold CallOk; kernel_rfl) rfl Try.ntmps97 (Nat.le_of_ble_eq_true rfl) ?_
  simp only [penv, Nat.reduceAdd, Nat.zero_add]
  repeat refine zz ?_
  refine o_call rfl rfl rfl (l1New_ok hx hn) ?_
  rintro _ w1 ⟨b, rfl, hb, hc, hk⟩
  have hkk : ∀ {w'}, Wrs w1 w' [b] → Keep w w' := fun h => h.keep hk (fun c hc => by simp at hc; omega)
  repeat refine zz ?_
  refine o_call rfl rfl rfl (l12Draw_ok hc) ?_
  rintro _ w2 ⟨u, v, L, G, fi, gj, rfl, hs, hgs, hl, hsm, hsG, hgG, hsmG, hc2, hw⟩
  have hgb : b ∉ fi := fun hm => by have := hgs _ hm; have := hc.lt; omega
  have hgbG : b ∉ gj := fun hm => by have := hgG _ hm; have := hc.lt; omega
  repeat refine zz ?_
  refine o_call rfl rfl rfl (l1Below_ok hc2 (by omega)) ?_
  rintro _ w3 ⟨y, rfl, hy0, hy1, hy2, hc3, hw3⟩
  replace hw := hw.trans hw3
  replace hs := hs.wrs hw3 (fun k h1 h2 => hgb (by simp at h2; exact h2 ▸ h1))
  replace hsG := hsG.wrs hw3 (fun k h1 h2 => hgbG (by simp at h2; exact h2 ▸ h1))
  repeat refine zz ?_
  exact ret3 rfl rfl rfl rfl ⟨hkk hw, _, _, L, G, fi, gj, _, rfl, hs, hl, hsm, hsG, hsmG, by omega, by omega⟩

theorem retQ4 {P : Program} {N : Nat} {fn : Func} {R : Value → World → Prop} {e : Env} {w : World} {t u s z : Tmp} {v x y q : Value} (hr : fn.results = #[.tmp t, .tmp u, .tmp s, .tmp z]) (hv : find e t = some v) (hx : find e u = some x) (hy : find e s = some y) (hz : find e z = some q) (h : R (.tuple #[v, x, y, q]) w) : retQ P N fn R .ret e w := by
  unfold retQ
  exact ⟨_, fun a ha => by
    have h1 := (ha.val t v hv).2
    have h2 := (ha.val u x hx).2
    have h3 := (ha.val s y hy).2
    have h4 := (ha.val z q hz).2
    simp only [Array.getD_eq_getD_getElem?] at h1 h2 h3 h4
    simp [results, hr, h1, h2, h3, h4], h⟩
set_option maxHeartbeats 2000000 in
theorem DrawVotesFor_ok {w : World} {v : Value} {xs : List Int} {fp : List Nat} (hx : Sl u8R w v xs fp) (hn : xs.length ≤ 1048576) :
    Run Try.prog 98 [v] w (fun r w' => Keep w w' ∧ ∃ (u v : Value) (L : List Itm) (G : List (List Nod)) (fi gj : List Nat) (q z : Int), r = .tuple #[u, v, .int .i64 q, .int .i64 z] ∧ Sl itemR w' u L fi ∧ L.length ≤ 101 ∧ small L ∧ Sl (slR nodeR) w' v G gj ∧ smallG G) := by
  refine Run_intro Try.func98 (by unfold CallOk; kernel_rfl) rfl Try.ntmps98 (Nat.le_of_ble_eq_true rfl) ?_
  simp only [penv, Nat.reduceAdd, Nat.zero_add]
  repeat refine zz ?_
  refine o_call rfl rfl rfl (l1New_ok hx hn) ?_
  rintro _ w1 ⟨b, rfl, hb, hc, hk⟩
  have hkk : ∀ {w'}, Wrs w1 w' [b] → Keep w w' := fun h => h.keep hk (fun c hc => by simp at hc; omega)
  repeat refine zz ?_
  refine o_call rfl rfl rfl (l12Draw_ok hc) ?_
  rintro _ w2 ⟨u, v, L, G, fi, gj, rfl, hs, hgs, hl, hsm, hsG, hgG, hsmG, hc2, hw⟩
  have hgb : b ∉ fi := fun hm => by have := hgs _ hm; have := hc.lt; omega
  have hgbG : b ∉ gj := fun hm => by have := hgG _ hm; have := hc.lt; omega
  repeat refine zz ?_
  refine o_call rfl rfl rfl (l1Below_ok hc2 (by omega)) ?_
  rintro _ w3 ⟨y, rfl, hy0, hy1, hy2, hc3, hw3⟩
  replace hw := hw.trans hw3
  replace hs := hs.wrs hw3 (fun k h1 h2 => hgb (by simp at h2; exact h2 ▸ h1))
  replace hsG := hsG.wrs hw3 (fun k h1 h2 => hgbG (by simp at h2; exact h2 ▸ h1))
  repeat refine zz ?_
  refine o_call rfl rfl rfl (l1Below_ok hc3 (by omega)) ?_
  rintro _ w4 ⟨z, rfl, hz0, hz1, hz2, hc4, hw4⟩
  replace hw := hw.trans hw4
  replace hs := hs.wrs hw4 (fun k h1 h2 => hgb (by simp at h2; exact h2 ▸ h1))
  replace hsG := hsG.wrs hw4 (fun k h1 h2 => hgbG (by simp at h2; exact h2 ▸ h1))
  repeat refine zz ?_
  exact retQ4 rfl rfl rfl rfl rfl ⟨hkk hw, _, _, L, G, fi, gj, _, _, rfl, hs, hl, hsm, hsG, hsmG⟩

end Go.E
