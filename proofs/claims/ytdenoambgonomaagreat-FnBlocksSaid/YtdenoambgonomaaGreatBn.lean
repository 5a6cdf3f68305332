/-
  Contracts: passes with a window, by the program. Conditions: as stated.
-/
import Derived.Test.YtdenoambgonomaaGreatBm
import Derived.Test.YtdenoambgonomaaGreatDl
import Derived.Test.YtdenoambgonomaaGreatM2
set_option linter.unusedVariables false
set_option linter.unusedSimpArgs false
namespace Go.E
open Go Go.RowKit Go.Proofs
theorem OwnF.slO {α : Type} {F : Flat α} {w : World} {base : Nat} {el : TypeId} {v : Value} {xs : List α} (h : OwnF F.R w base el v xs []) (hs : 0 < F.sz) : ∃ f, Sl F.R w v xs f ∧ ∀ b, b ∈ f → v.ownBlock = some b := by
  obtain ⟨f, h1, _, h3⟩ := h.own.sl hs
  exact ⟨f, h1, fun b hb => by rw [h3, List.append_nil] at hb; cases hv : v.ownBlock <;> simp [hv] at hb ⊢; exact hb.symm⟩
theorem Blk.pre {w : World} {b : Nat} {t : TypeId} {xs ys : List Value} (h : Blk w b t (xs ++ ys)) : Cells w (fa (some ⟨b, 0, none⟩) 0) xs := h.cells.pre
theorem Blk.pre2 {w : World} {b : Nat} {t : TypeId} {x : Value} {ys : List Value} (h : Blk w b t (x :: ys)) : Cell w (fa (fa (some ⟨b, 0, none⟩) 0) 0) x := h.at2 (i := 0) (j := 0) rfl
attribute [local irreducible] W WL WD WE thenE inE retQ PureOp Keep Cell Cells Blk Sl Rows Own Src Fresh
attribute [local irreducible] passN bIns doneP lateP

set_option maxHeartbeats 1000000 in
theorem blockHit_ok {w : World} {u : Value} {L : List Itm} {e : List Nod} {U : Nat → Value} {g gp : List Nat} {x : Nat} {h : Nat × Bool} {b4 b14 : Nat} (he : Sl nodeR w u e gp) (hB : BehN L U g w) (h4 : Blk w b4 30 [u]) (h14 : Blk w b14 67 [.int .i64 (gi L (x : Int)).id, U x]) (hex : isExpr e = true) (hit : ∀ i : Nat, i < L.length → isItem (gi L (i : Int)) = true) (hx : x < L.length) (hh : h.1 < L.length) :
    Run Tryz.prog 92 [.agg [.int .i64 (gi L (h.1 : Int)).id, U h.1, .bool h.2].toArray, .pointer (some ⟨b4, 0, none⟩), .pointer (some ⟨b14, 0, none⟩)] w (fun r w' => r = .bool (bHit L e x h) ∧ Keep w w') := by
  obtain ⟨f1, hu1, _⟩ := hB h.1 hh
  obtain ⟨f2, hu2, _⟩ := hB x hx
  refine Run_intro Tryz.func92 (by unfold CallOk; kernel_rfl) rfl Tryz.ntmps92 (Nat.le_of_ble_eq_true rfl) ?_
  simp only [penv, Nat.reduceAdd, Nat.zero_add]
  repeat refine zz ?_
  refine o_boxS rfl rfl rfl ?_
  intro b3 w1 hal
  have hb3 : Blk w1 b3 113 ([.int .i64 (gi L (h.1 : Int)).id, U h.1] ++ [.bool h.2]) := hal.blk
  have hk := hal.kp
  replace he := he.keep hk
  replace hu1 := hu1.keep hk
  replace hu2 := hu2.keep hk
  replace h4 := h4.keep hk
  replace h14 := h14.keep hk
  have c4 := h4.cell (i := 0) rfl
  have c3 := hb3.pre
  have c14 := h14.cells
  repeat refine zz ?_
  refine o_call rfl rfl rfl (compareBy_ok (x := gi L (h.1 : Int)) (y := gi L (x : Int)) he hu1 hu2 hex (hit _ hh) (hit _ hx)) ?_
  rintro _ w2 ⟨rfl, hk2⟩
  repeat refine zz ?_
  exact ret1 rfl rfl ⟨rfl, hk.keep hk2⟩

set_option maxHeartbeats 1000000 in
theorem blockOut_ok {w : World} {u : Value} {L : List Itm} {e : List Nod} {U : Nat → Value} {g gp : List Nat} {x : Nat} {h : Nat × Bool} {b4 b14 : Nat} (he : Sl nodeR w u e gp) (hB : BehN L U g w) (h4 : Blk w b4 30 [u]) (h14 : Blk w b14 67 [.int .i64 (gi L (x : Int)).id, U x]) (hex : isExpr e = true) (hit : ∀ i : Nat, i < L.length → isItem (gi L (i : Int)) = true) (hx : x < L.length) (hh : h.1 < L.length) :
    Run Tryz.prog 95 [.agg [.int .i64 (gi L (h.1 : Int)).id, U h.1, .bool h.2].toArray, .pointer (some ⟨b4, 0, none⟩), .pointer (some ⟨b14, 0, none⟩)] w (fun r w' => r = .bool (bOut L e x h) ∧ Keep w w') := by
  obtain ⟨f1, hu1, _⟩ := hB h.1 hh
  obtain ⟨f2, hu2, _⟩ := hB x hx
  refine Run_intro Tryz.func95 (by unfold CallOk; kernel_rfl) rfl Tryz.ntmps95 (Nat.le_of_ble_eq_true rfl) ?_
  simp only [penv, Nat.reduceAdd, Nat.zero_add]
  repeat refine zz ?_
  refine o_boxS rfl rfl rfl ?_
  intro b3 w1 hal
  have hb3 : Blk w1 b3 113 ([.int .i64 (gi L (h.1 : Int)).id, U h.1] ++ [.bool h.2]) := hal.blk
  have hk := hal.kp
  replace he := he.keep hk
  replace hu1 := hu1.keep hk
  replace hu2 := hu2.keep hk
  replace h4 := h4.keep hk
  replace h14 := h14.keep hk
  have c4 := h4.cell (i := 0) rfl
  have c3 := hb3.pre
  have c14 := h14.cells
  repeat refine zz ?_
  refine o_call rfl rfl rfl (compareBy_ok (x := gi L (x : Int)) (y := gi L (h.1 : Int)) he hu2 hu1 hex (hit _ hx) (hit _ hh)) ?_
  rintro _ w2 ⟨rfl, hk2⟩
  repeat refine zz ?_
  exact ret1 rfl rfl ⟨rfl, hk.keep hk2⟩

attribute [local irreducible] blockP
set_option maxHeartbeats 4000000 in
theorem impl_BlockBest_ok {w : World} {v u : Value} {L : List Itm} {e : List Nod} {fp gp : List Nat} (hL : Sl itemR w v L fp) (he : Sl nodeR w u e gp) (q : Int) (hn : e.length + totN e ≤ 1048576) :
    Run Tryz.prog 41 [v, u, .int .i64 q] w (fun r w' => Keep w w' ∧ ∃ x f, r = .tuple #[x, .int .i64 ((blockBest L e q).2 : Int)] ∧ Sl intR w' x (blockBest L e q).1 f ∧ Fresh w.heap.size w' f) := by
  obtain ⟨U, f0, hP, hf0, hB⟩ := items_ix hL
  have dL := hL.dom
  have hsz : (idF L U).sz = 2 := rfl
  have hsz3 : (heF L U).sz = 3 := rfl
  obtain ⟨A, n, c, rfl, hnx⟩ := hL.split
  obtain ⟨Au, nu, cu, rfl, hnu⟩ := he.split
  refine Run_intro Tryz.func41 (by unfold CallOk; kernel_rfl) rfl Tryz.ntmps41 (Nat.le_of_ble_eq_true rfl) ?_
  simp only [penv, Nat.reduceAdd, Nat.zero_add]
  repeat refine zz ?_
  refine o_box rfl rfl rfl ?_
  intro b4 w1 hal1
  have h4 : Blk w1 b4 30 [.slice Au nu cu] := hal1.blk
  have hk01 := hal1.kp
  have hz01 := hk01.size_le
  replace hL := hL.keep hk01
  replace he := he.keep hk01
  replace hP := hP.keep hk01
  replace hB := hB.keep hk01
  have c4 := h4.cell (i := 0) rfl
  repeat refine zz ?_
  refine o_buildSlice rfl rfl rfl rfl rfl (by intro p hp; cases hp) (by omega) ?_
  intro bO wO halO
  have hkO := halO.kp
  have ho0 : OwnF intR wO w1.heap.size 3 (.slice (some ⟨bO, 0, none⟩) 0 0) [] [] := OwnF.made halO.blk (by have := halO.b_eq; omega)
  have heO := halO.b_eq
  replace c4 := c4.keep hkO
  repeat refine zz ?_
  refine o_call rfl rfl rfl (areBoth_ok (hL.keep hkO) (he.keep hkO) hn) ?_
  rintro _ w2 ⟨rfl, hk2⟩
  replace ho0 := ho0.keep hk2
  replace hkO := hkO.keep hk2
  have hbad : (fine L e && inR q 1 16) = false → blockBest L e q = ([], 0) := fun h => by rw [blockBest, if_neg (by rw [h]; simp)]
  repeat refine zz ?_
  refine WL_part rfl rfl (fun h1 => ?_) (fun h1 => ?_)
  · repeat refine zz ?_
    obtain ⟨fp, hs, hf⟩ := ho0.sl (by decide)
    simp at h1
    have hd := hbad (by simp [h1])
    exact ret2 rfl rfl rfl ⟨hk01.keep hkO, _, fp, by rw [hd]; rfl, by rw [hd]; exact hs, hf.mono hz01⟩
  simp at h1
  obtain ⟨hit, hln, hex⟩ := fine_ok h1
  repeat refine zz ?_
  refine o_call rfl rfl rfl (within_ok _ _ _ _) ?_
  rintro _ _ ⟨rfl, rfl⟩
  repeat refine zz ?_
  refine W_cond rfl (fun h2 => ?_) (fun h2 => ?_)
  · repeat refine zz ?_
    obtain ⟨fp, hs, hf⟩ := ho0.sl (by decide)
    simp only [Bool.not_eq_true'] at h2
    have hd := hbad (by rw [h2, Bool.and_false])
    exact ret2 rfl rfl rfl ⟨hk01.keep hkO, _, fp, by rw [hd]; rfl, by rw [hd]; exact hs, hf.mono hz01⟩
  simp only [Bool.not_eq_false'] at h2
  have hq := inR_iff'.1 h2
  have hT : blockBest L e q = (sortP id (blockP L e q.toNat L.length (List.range L.length)).1, (blockP L e q.toNat L.length (List.range L.length)).2) := by rw [blockBest, if_pos (by rw [h1, h2]; rfl)]
  have hTl := blockP_len L e q.toNat L.length (List.range L.length)
  rw [List.length_range] at hTl
  generalize hTT : blockP L e q.toNat L.length (List.range L.length) = T at hT hTl
  repeat refine zz ?_
  refine W_loop (S := List Nat × Value × Value × Nat × List Int × Nat) (fun s => [(2, .int .i64 q), (4, .pointer (some ⟨b4, 0, none⟩)), (8, s.2.2.1), (9, .int .i64 (s.2.2.2.1 : Int)), (10, s.2.1)]) (fun s w' => Keep w1 w' ∧ (∃ f, Sl (idF L U).R w' s.2.1 s.1 f ∧ ∀ b, s.2.2.1.ownBlock = some b → b ∉ f) ∧ (OwnF intR w' w1.heap.size 3 s.2.2.1 s.2.2.2.2.1 [] ∧ s.2.2.1.ownBlock.isSome = true) ∧ (s.1.length ≤ s.2.2.2.2.2 ∧ s.1.length ≤ 16 ∧ s.2.2.2.2.1 ++ (blockP L e q.toNat s.2.2.2.2.2 s.1).1 = T.1 ∧ s.2.2.2.1 + (blockP L e q.toNat s.2.2.2.2.2 s.1).2 = T.2)) (fun s => s.1.length) (List.range L.length, _, _, 0, [], L.length) ⟨rfl, rfl, rfl, rfl, rfl, trivial⟩ ⟨hkO, ⟨f0, hP.keep hkO, fun b hb hm => by have := dL b (hf0 b hm); simp only [Value.ownBlock, Option.some.injEq] at hb; omega⟩, ⟨ho0, rfl⟩, ⟨by simp, by simp; omega, by dsimp only; rw [hTT]; rfl, by dsimp only; rw [hTT]; omega⟩⟩ ?_
  clear ho0 hkO hk2 heO halO hbad c4
  rintro ⟨ps, vr, vo, cnt, acc, m⟩ wa ⟨hka, ⟨f, hs, hout⟩, ⟨hoa, hos⟩, ⟨hm, h16, hacc, hcnt⟩⟩
  dsimp only at hs hout hoa hos hm h16 hacc hcnt ⊢
  obtain ⟨Ar, nr, cr, rfl, hnr⟩ := hs.split
  have hal : acc.length ≤ 16 := by have := congrArg List.length hacc; rw [List.length_append] at this; omega
  have hza := hka.size_le
  repeat refine zz ?_
  refine W_cond rfl (fun hc => ?_) (fun hc => ?_)
  · have hp0 : ps.length ≠ 0 := by simp at hc; omega
    obtain ⟨m, rfl⟩ : ∃ k, m = k + 1 := ⟨m - 1, by omega⟩
    have hless := pass_less (L := L) (e := e) (win := q.toNat) (ps := ps) (by omega) hp0
    have hpl := fun k => passN_len L e q.toNat ps k
    rw [blockP_step hp0] at hacc hcnt
    have hou := fun c hc => (hoa.lt (b := c) hc).2
    repeat refine zz ?_
    refine o_buildSlice rfl rfl rfl rfl rfl (by intro p hp; cases hp) (by omega) ?_
    intro b11 wb hal11
    have he11 := hal11.b_eq
    have hz11 := hal11.size
    have h11 : OwnF (heF L U).R wb wa.heap.size 113 (.slice (some ⟨b11, 0, none⟩) 0 0) [] [] := OwnF.made hal11.blk (by omega)
    repeat refine zz ?_
    refine o_buildSlice rfl rfl rfl rfl rfl (by intro p hp; cases hp) (by omega) ?_
    intro b12 wc hal12
    have he12 := hal12.b_eq
    have hz12 := hal12.size
    have h12 : OwnF (idF L U).R wc wa.heap.size 67 (.slice (some ⟨b12, 0, none⟩) 0 0) [] [] := OwnF.made hal12.blk (by omega)
    replace h11 := h11.keep hal12.kp
    have hkc := hal11.kp.keep hal12.kp
    have hap0 : Apart (.slice (some ⟨b11, 0, none⟩) 0 0) (.slice (some ⟨b12, 0, none⟩) 0 0) := fun c h1 h2 => by simp only [Value.ownBlock, Option.some.injEq] at h1 h2; omega
    have hs0 : passN L e q.toNat ps 0 = ([], []) := by unfold passN; rfl
    repeat refine zz ?_
    refine W_loop (S := Nat × Value × Value) (fun s => [(2, .int .i64 q), (4, .pointer (some ⟨b4, 0, none⟩)), (8, vo), (9, .int .i64 (cnt : Int)), (11, s.2.1), (12, s.2.2), (36, .slice Ar nr cr), (37, .int .i64 nr), (38, .int .i64 (s.1 : Int))]) (fun s w' => Keep wa w' ∧ s.1 ≤ nr ∧ (OwnF (heF L U).R w' wa.heap.size 113 s.2.1 (passN L e q.toNat ps s.1).1 [] ∧ s.2.1.ownBlock.isSome = true) ∧ OwnF (idF L U).R w' wa.heap.size 67 s.2.2 (passN L e q.toNat ps s.1).2 [] ∧ Apart s.2.1 s.2.2) (fun s => nr - s.1) (0, _, _) ⟨rfl, rfl, rfl, rfl, rfl, rfl, rfl, rfl, rfl, trivial⟩ ⟨hkc, by omega, ⟨by rw [hs0]; exact h11, rfl⟩, by rw [hs0]; exact h12, hap0⟩ ?_
    clear h11 h12 hap0 hkc
    rintro ⟨k, v11, v12⟩ wb ⟨hkb, hk, ⟨h11, h11s⟩, h12, hap⟩
    dsimp only at hk h11 h11s h12 hap ⊢
    have hstl := hpl k
    obtain ⟨bb, hbb⟩ := Option.isSome_iff_exists.1 h11s
    have hzb := hkb.size_le
    repeat refine zz ?_
    refine W_cond rfl (fun hd => ?_) (fun hd => ?_)
    · have hkl : k < nr := by simp at hd; omega
      obtain ⟨hA, hokx, hcx⟩ := Flat.get (hs.keep hkb) (i := (k : Int)) (by omega) (by omega)
      generalize hst : passN L e q.toNat ps k = st at h11 h12 hstl
      generalize hxe : gi ps (k : Int) = x at hokx hcx
      have hcx : Cells wb (ea Ar 2 (k : Int)) [.int .i64 (gi L (x : Int)).id, U x] := hcx
      obtain ⟨hxL, hxo⟩ := hokx
      repeat refine zz ?_
      refine o_alloc rfl rfl ?_
      intro b14 w3 hal14
      have he14 := hal14.b_eq
      have hb14 := hal14.blk
      have u11 := (h11.lt hbb)
      replace hcx := hcx.keep hal14.kp
      repeat refine zz ?_
      refine o_storeS (b := b14) (off := 0) rfl rfl rfl rfl (by repeat (first | exact ones_nil | refine ones_cons (by first | rfl | assumption) ?_)) rfl hb14 (by simp) ?_
      intro w4 hu14
      have h14 : Blk w4 b14 67 [.int .i64 (gi L (x : Int)).id, U x] := hu14.blk
      have hkk : Keep wb w4 := hal14.kp.upd hu14 (by omega)
      have hk4 := hkb.keep hkk
      replace h11 := h11.keep hkk
      replace h12 := h12.keep hkk
      have hka4 := hka.keep hk4
      clear hcx hb14 hu14
      obtain ⟨f11, s11⟩ := h11.slF (by rw [hsz3]; decide)
      have hok11 := (Flat.row h11).2.1
      repeat refine zz ?_
      refine WL_pure rfl rfl (o_makeFunc rfl rfl) ?_
      repeat refine zz ?_
      refine o_call rfl rfl rfl (slices_ContainsFuncH_ok (p := bHit L e x) s11 (fun w' h hk' hm => blockHit_ok ((he.keep hka4).keep hk') ((hB.keep hka4).keep hk') ((h4.keep hka4).keep hk') (h14.keep hk') hex hit hxL (hok11 h hm).1)) ?_
      rintro _ w5 ⟨rfl, hk5⟩
      rw [anyB_any]
      repeat refine zz ?_
      refine W_cond rfl (fun hhit => ?_) (fun hhit => ?_)
      · repeat refine zz ?_
        have e1 : passN L e q.toNat ps (k + 1) = st := by rw [step_hit (by rw [hst, hxe]; exact hhit), hst]
        exact ⟨(k + 1, v11, v12), ⟨rfl, rfl, rfl, rfl, rfl, rfl, rfl, rfl, rfl, trivial⟩, ⟨hk4.keep hk5, by dsimp only; omega, ⟨by dsimp only; rw [e1]; exact h11.keep hk5, h11s⟩, by dsimp only; rw [e1]; exact h12.keep hk5, hap⟩, by dsimp only; omega⟩
      have hfa : ¬ st.1.any (bHit L e x) = true := by rw [hhit]; decide
      replace h11 := h11.keep hk5
      replace h12 := h12.keep hk5
      replace h14 := h14.keep hk5
      replace hk4 := hk4.keep hk5
      have hka5 := hka.keep hk4
      have dB := (hB.keep hka5)
      have l14 := h14.lt
      have dg := hL.dom
      have de := he.dom
      have l4 := h4.lt
      repeat refine zz ?_
      refine WL_pure rfl rfl (o_makeFunc rfl rfl) ?_
      repeat refine zz ?_
      refine o_call rfl rfl rfl (slices_DeleteFuncH_ok (p := bOut L e x) (I := fun w' => Sl nodeR w' (.slice Au nu cu) e gp ∧ BehN L U fp w' ∧ Blk w' b4 30 [.slice Au nu cu] ∧ Blk w' b14 67 [.int .i64 (gi L (x : Int)).id, U x]) h11 hbb (fun w1 w2 h k => ⟨h.1.keep k, h.2.1.keep k, h.2.2.1.keep k, h.2.2.2.keep k⟩) (fun w1 w2 cs h k => ⟨h.1.upd k (fun hm => by have := de _ hm; omega), h.2.1.same (fun b hb => k.other b (by have := dg _ hb; omega)), h.2.2.1.upd k (by omega), h.2.2.2.upd k (by omega)⟩) ⟨he.keep hka5, dB, h4.keep hka5, h14⟩ (fun w' h hI hm => blockOut_ok hI.1 hI.2.1 hI.2.2.1 hI.2.2.2 hex hit hxL (hok11 h hm).1) (by omega)) ?_
      rintro v11' w6 ⟨h11n, hbb', hw6, ⟨_, _, _, h14n⟩⟩
      have hk6 : Keep wa w6 := hw6.keep hk4 (fun b hb => by simp at hb; omega)
      have h12n := h12.wrs2 hw6 (fun e => hap bb hbb e)
      have hap2 : Apart v11' v12 := fun c h1 h2 => by rw [hbb'] at h1; exact hap c (by rw [hbb]; exact h1) h2
      have hbi : (st.1.filter fun h => !bOut L e x h) = bIns L e x st.1 := by unfold bIns; rfl
      rw [hbi] at h11n
      have hbil := bIns_len L e x st.1
      obtain ⟨A11, n11, c11, rfl, hn11, _⟩ := h11n.split
      obtain ⟨A12, n12, c12, rfl, hn12, _⟩ := h12n.split
      have c14 := h14n.cells
      have hz6 := hk6.size_le
      have u12 := fun c hc => (h12n.lt (b := c) hc).2
      have u11n := fun c hc => (h11n.lt (b := c) hc).2
      repeat refine zz ?_
      refine W_cond rfl (fun hlt => ?_) (fun hlt => ?_)
      · have hlt2 : (bIns L e x st.1).length < q.toNat := by simp at hlt; omega
        have e1 : passN L e q.toNat ps (k + 1) = (bIns L e x st.1 ++ [(x, decide (st.2.length = 0))], st.2) := by rw [step_in (by rw [hst, hxe]; exact hfa) (by rw [hst, hxe]; exact hlt2), hst, hxe]
        repeat refine zz ?_
        refine WL_pure rfl rfl (o_buildT (cs := [.int .i64 (gi L (x : Int)).id, U x, .bool (decide ((n12 : Int) = 0))]) rfl rfl) ?_
        repeat refine zz ?_
        refine o_buildSlice rfl rfl rfl rfl rfl (by simp [Value.cells]) (by omega) ?_
        intro b7 w7 hal7
        have hz7 := hal7.size
        have hb7 : Blk w7 b7 113 ((heF L U).cf (x, decide (st.2.length = 0))) := by simpa [Value.cells, heF, hn12] using hal7.blk
        replace hk6 := hk6.keep hal7.kp
        replace h11n := h11n.keep hal7.kp
        replace h12n := h12n.keep hal7.kp
        have u12' := fun c hc => (h12n.lt (b := c) hc).2
        repeat refine zz ?_
        refine o_appendG (sz := 3) (R := (heF L U).R) (M := _) (gi := []) rfl rfl rfl rfl rfl (by decide) h11n (Blk.src (xs := [(x, decide (st.2.length = 0))]) hb7 (Flat.single (F := heF L U) ⟨hxL, hxo⟩)) rfl (Fresh.nil _ _) (fun b hb => by simp at hb) (fun b hb => (h11n.lt hb).2) (fun b hb => by simp at hb) (by simp only [List.length_cons, List.length_nil]; omega) (by simp only [List.length_cons, List.length_nil]; omega) (by omega) ?_
        intro vN w8 hN hb8 hg8 hvN
        repeat refine zz ?_
        refine ⟨(k + 1, vN, .slice A12 n12 c12), ⟨rfl, rfl, rfl, rfl, rfl, rfl, rfl, rfl, rfl, trivial⟩, ⟨hk6.grown hg8 (fun b hb => (h11n.lt hb).1), by dsimp only; omega, ⟨?_, ?_⟩, ?_, hap2.next hvN u12'⟩, by dsimp only; omega⟩
        · dsimp only; rw [e1]; exact hN
        · dsimp only; rcases hvN with h | h
          · rw [h, hbb']; rfl
          · rw [h]; rfl
        · dsimp only; rw [e1]; exact h12n.grown hg8 (fun b hb => ⟨hap2 b hb, by simp⟩)
      · have hlt2 : ¬ (bIns L e x st.1).length < q.toNat := by simp at hlt; omega
        have e1 : passN L e q.toNat ps (k + 1) = (bIns L e x st.1, st.2 ++ [x]) := by rw [step_over (by rw [hst, hxe]; exact hfa) (by rw [hst, hxe]; exact hlt2), hst, hxe]
        repeat refine zz ?_
        refine o_buildSlice rfl rfl rfl rfl rfl (by simp [Value.cells]) (by omega) ?_
        intro b7 w7 hal7
        have hz7 := hal7.size
        have hb7 : Blk w7 b7 67 ((idF L U).cf x) := by simpa [Value.cells, idF] using hal7.blk
        replace hk6 := hk6.keep hal7.kp
        replace h11n := h11n.keep hal7.kp
        replace h12n := h12n.keep hal7.kp
        have u11' := fun c hc => (h11n.lt (b := c) hc).2
        repeat refine zz ?_
        refine o_appendG (sz := 2) (R := (idF L U).R) (M := _) (gi := []) rfl rfl rfl rfl rfl (by decide) h12n (Blk.src (xs := [x]) hb7 (Flat.single (F := idF L U) ⟨hxL, hxo⟩)) rfl (Fresh.nil _ _) (fun b hb => by simp at hb) (fun b hb => (h12n.lt hb).2) (fun b hb => by simp at hb) (by simp only [List.length_cons, List.length_nil]; omega) (by simp only [List.length_cons, List.length_nil]; omega) (by omega) ?_
        intro vN w8 hN hb8 hg8 hvN
        repeat refine zz ?_
        refine ⟨(k + 1, .slice A11 n11 c11, vN), ⟨rfl, rfl, rfl, rfl, rfl, rfl, rfl, rfl, rfl, trivial⟩, ⟨hk6.grown hg8 (fun b hb => (h12n.lt hb).1), by dsimp only; omega, ⟨?_, ?_⟩, ?_, (hap2.symm.next hvN u11').symm⟩, by dsimp only; omega⟩
        · dsimp only; rw [e1]; exact h11n.grown hg8 (fun b hb => ⟨hap2.symm b hb, by simp⟩)
        · dsimp only; rw [hbb']; rfl
        · dsimp only; rw [e1]; exact hN
    · simp at hd
      obtain rfl : nr = k := by omega
      rw [hnr] at h11 h12
      rw [hnr] at hstl
      generalize hst : passN L e q.toNat ps ps.length = st at *
      have hdl : ∀ k, (doneP (st.1.take k)).length + (lateP (st.1.take k)).length ≤ 16 := fun k => by
        rw [doneP_len, List.length_take]; omega
      obtain ⟨A11, n11, c11, rfl, hn11, _⟩ := h11.split
      have hkw := hka.keep hkb
      replace hoa := hoa.keep hkb
      have a11o : Apart (.slice A11 n11 c11) vo := fun c h1 h2 => by have := (h11.lt (b := c) h1).1; have := hou c h2; omega
      have a12o : Apart v12 vo := fun c h1 h2 => by have := (h12.lt (b := c) h1).1; have := hou c h2; omega
      replace h11 := h11.below hza
      replace h12 := h12.below hza
      have hd0 : doneP (st.1.take 0) = [] := by unfold doneP; simp
      have hl0 : lateP (st.1.take 0) = [] := by unfold lateP; simp
      have hi0 : idsP L [] = [] := rfl
      have hil : ∀ xs, (idsP L xs).length = xs.length := fun xs => by simp [idsP]
      repeat refine zz ?_
      refine W_loop (S := Nat × Value × Value) (fun s => [(2, .int .i64 q), (4, .pointer (some ⟨b4, 0, none⟩)), (8, s.2.1), (9, .int .i64 (cnt : Int)), (12, s.2.2), (65, .slice A11 n11 c11), (66, .int .i64 n11), (67, .int .i64 (s.1 : Int))]) (fun s w' => Keep w1 w' ∧ s.1 ≤ n11 ∧ OwnF (heF L U).R w' w1.heap.size 113 (.slice A11 n11 c11) st.1 [] ∧ OwnF (idF L U).R w' w1.heap.size 67 s.2.2 (st.2 ++ lateP (st.1.take s.1)) [] ∧ (OwnF intR w' w1.heap.size 3 s.2.1 (acc ++ idsP L (doneP (st.1.take s.1))) [] ∧ s.2.1.ownBlock.isSome = true) ∧ Apart (.slice A11 n11 c11) s.2.2 ∧ Apart (.slice A11 n11 c11) s.2.1 ∧ Apart s.2.2 s.2.1) (fun s => n11 - s.1) (0, _, _) ⟨rfl, rfl, rfl, rfl, rfl, rfl, rfl, rfl, trivial⟩ ⟨hkw, by omega, h11, by rw [hl0, List.append_nil]; exact h12, ⟨by rw [hd0, hi0, List.append_nil]; exact hoa, hos⟩, hap, a11o, a12o⟩ ?_
      clear h11 h12 hoa hos hap a11o a12o hkw
      rintro ⟨j, vo', v12'⟩ wd ⟨hkd, hj, h11, h12, ⟨hod, hos⟩, hap, a11o, a12o⟩
      dsimp only at hj h12 hod hos hap a11o a12o ⊢
      have hdj := hdl j
      have hilj := hil (doneP (st.1.take j))
      have hzd := hkd.size_le
      repeat refine zz ?_
      refine W_cond rfl (fun hj2 => ?_) (fun hj2 => ?_)
      · have hjl : j < n11 := by simp at hj2; omega
        obtain ⟨g11, s11⟩ := h11.slF (by rw [hsz3]; decide)
        obtain ⟨hA11, hok11, hc11⟩ := Flat.get s11 (i := (j : Int)) (by omega) (by omega)
        have hds := done_step (xs := st.1) (k := j) (by omega)
        have hls := late_step (xs := st.1) (k := j) (by omega)
        generalize gi st.1 (j : Int) = h at *
        obtain ⟨y, bl⟩ := h
        have hc11 : Cells wd (ea A11 3 (j : Int)) [.int .i64 (gi L (y : Int)).id, U y, .bool bl] := hc11
        obtain ⟨hyL, hyo⟩ := hok11
        dsimp only at hyL hyo hds hls
        repeat refine zz ?_
        refine o_alloc rfl rfl ?_
        intro b16 w3 hal16
        have he16 := hal16.b_eq
        have hb16 := hal16.blk
        replace hc11 := hc11.keep hal16.kp
        repeat refine zz ?_
        refine o_storeS (b := b16) (off := 0) rfl rfl rfl rfl (by repeat (first | exact ones_nil | refine ones_cons (by first | rfl | assumption) ?_)) rfl hb16 (by simp) ?_
        intro w4 hu16
        have h16b : Blk w4 b16 113 ([.int .i64 (gi L (y : Int)).id, U y] ++ [.bool bl]) := hu16.blk
        have hkk : Keep wd w4 := hal16.kp.upd hu16 (by omega)
        replace h11 := h11.keep hkk
        replace h12 := h12.keep hkk
        replace hod := hod.keep hkk
        replace hkd := hkd.keep hkk
        clear hc11 hb16 hu16
        have cb : Cell w4 (fa (some ⟨b16, 0, none⟩) 2) (.bool bl) := h16b.fcell rfl
        have cp := h16b.pre
        have ci : Cell w4 (fa (fa (some ⟨b16, 0, none⟩) 0) 0) (.int .i64 (gi L (y : Int)).id) := Blk.pre2 h16b
        repeat refine zz ?_
        refine W_cond rfl (fun hbl => ?_) (fun hbl => ?_)
        · rw [if_pos hbl] at hds hls
          rw [List.append_nil] at hls
          repeat refine zz ?_
          refine o_buildSlice rfl rfl rfl rfl rfl (by simp [Value.cells]) (by omega) ?_
          intro b7 w7 hal7
          have hz7 := hal7.size
          have hzk := hkd.size_le
          replace hkd := hkd.keep hal7.kp
          replace h11 := h11.keep hal7.kp
          replace h12 := h12.keep hal7.kp
          replace hod := hod.keep hal7.kp
          have u11 := fun c hc => (h11.lt (b := c) hc).2
          have u12 := fun c hc => (h12.lt (b := c) hc).2
          repeat refine zz ?_
          refine o_appendG (R := intR) (M := _) (gi := []) rfl rfl rfl rfl rfl (by decide) hod (Blk.src (xs := [(gi L (y : Int)).id]) hal7.blk (Rows.ints _ _)) rfl (Fresh.nil _ _) (fun b hb => by simp at hb) (fun b hb => (hod.lt hb).2) (fun b hb => by simp at hb) (by simp only [List.length_append, List.length_cons, List.length_nil]; omega) (by simp only [List.length_append, List.length_cons, List.length_nil]; omega) (by omega) ?_
          intro vN w8 hN hb8 hg8 hvN
          repeat refine zz ?_
          refine ⟨(j + 1, vN, v12'), ⟨rfl, rfl, rfl, rfl, rfl, rfl, rfl, rfl, trivial⟩, ⟨hkd.grown hg8 (fun b hb => (hod.lt hb).1), by dsimp only; omega, h11.grown hg8 (fun b hb => ⟨a11o.symm b hb, by simp⟩), ?_, ⟨?_, ?_⟩, hap, (a11o.symm.next hvN u11).symm, (a12o.symm.next hvN u12).symm⟩, by dsimp only; omega⟩
          · dsimp only; rw [hls]; exact h12.grown hg8 (fun b hb => ⟨a12o.symm b hb, by simp⟩)
          · dsimp only; rw [hds, show idsP L (doneP (st.1.take j) ++ [y]) = idsP L (doneP (st.1.take j)) ++ [(gi L (y : Int)).id] by simp [idsP], ← List.append_assoc]; exact hN
          · dsimp only; rcases hvN with h | h
            · rw [h]; exact hos
            · rw [h]; rfl
        · rw [if_neg (by simp [hbl])] at hds hls
          rw [List.append_nil] at hds
          repeat refine zz ?_
          refine o_buildSlice rfl rfl rfl rfl rfl (by simp [Value.cells]) (by omega) ?_
          intro b7 w7 hal7
          have hz7 := hal7.size
          have hzk := hkd.size_le
          have hb7 : Blk w7 b7 67 ((idF L U).cf y) := by simpa [Value.cells, idF] using hal7.blk
          replace hkd := hkd.keep hal7.kp
          replace h11 := h11.keep hal7.kp
          replace h12 := h12.keep hal7.kp
          replace hod := hod.keep hal7.kp
          have u11 := fun c hc => (h11.lt (b := c) hc).2
          have uo := fun c hc => (hod.lt (b := c) hc).2
          repeat refine zz ?_
          refine o_appendG (sz := 2) (R := (idF L U).R) (M := _) (gi := []) rfl rfl rfl rfl rfl (by decide) h12 (Blk.src (xs := [y]) hb7 (Flat.single (F := idF L U) ⟨hyL, hyo⟩)) rfl (Fresh.nil _ _) (fun b hb => by simp at hb) (fun b hb => (h12.lt hb).2) (fun b hb => by simp at hb) (by simp only [List.length_append, List.length_cons, List.length_nil]; omega) (by simp only [List.length_append, List.length_cons, List.length_nil]; omega) (by omega) ?_
          intro vN w8 hN hb8 hg8 hvN
          repeat refine zz ?_
          refine ⟨(j + 1, vo', vN), ⟨rfl, rfl, rfl, rfl, rfl, rfl, rfl, rfl, trivial⟩, ⟨hkd.grown hg8 (fun b hb => (h12.lt hb).1), by dsimp only; omega, h11.grown hg8 (fun b hb => ⟨hap.symm b hb, by simp⟩), ?_, ⟨?_, hos⟩, (hap.symm.next hvN u11).symm, a11o, a12o.next hvN uo⟩, by dsimp only; omega⟩
          · dsimp only; rw [hls, ← List.append_assoc]; exact hN
          · dsimp only; rw [hds]; exact hod.grown hg8 (fun b hb => ⟨a12o b hb, by simp⟩)
      · simp at hj2
        obtain rfl : n11 = j := by omega
        have ht : st.1.take n11 = st.1 := by rw [hn11, List.take_length]
        rw [ht] at h12 hod
        obtain ⟨fo, so, go⟩ := h12.slO (by rw [hsz]; decide)
        repeat refine zz ?_
        refine ⟨(st.2 ++ lateP st.1, v12', vo', cnt + 1, acc ++ idsP L (doneP st.1), m), ⟨rfl, rfl, rfl, find_int rfl (by dsimp only; omega), rfl, trivial⟩, ⟨hkd, ⟨fo, so, fun b hb hm => a12o b (go b hm) hb⟩, ⟨hod, hos⟩, ⟨by dsimp only; omega, by dsimp only; omega, by dsimp only; rw [List.append_assoc]; exact hacc, by dsimp only; omega⟩⟩, by dsimp only; omega⟩
  · have hp0 : ps.length = 0 := by simp at hc; omega
    obtain rfl := List.eq_nil_of_length_eq_zero hp0
    rw [blockP_nil] at hacc hcnt
    obtain ⟨bo, hbo⟩ := Option.isSome_iff_exists.1 hos
    repeat refine zz ?_
    refine o_call rfl rfl rfl (slices_Sort_ok hoa hbo (by omega)) ?_
    rintro _ w2 ⟨rfl, hg2, ho2⟩
    obtain ⟨f2, s2, g2⟩ := ho2.sl (by decide)
    repeat refine zz ?_
    simp only [List.append_nil, Nat.add_zero] at hacc hcnt
    exact ret2 rfl rfl rfl ⟨(hk01.keep (hka.grown hg2 (fun b hb => by simp only [Option.some.injEq] at hb; exact hb ▸ (hoa.lt hbo).1))), _, f2, by rw [hT, hcnt], by rw [hT, ← hacc]; exact s2, g2.mono hz01⟩
end Go.E
