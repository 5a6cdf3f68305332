/-
  Contracts: the regret of a set of items, by the program and by the reference. Conditions: none.
-/
import Derived.Test.YtoemiahnilmdlaaRb
import Derived.Test.YtoemiahnilmdlaaRc
import Derived.Test.YtoemiahnilmdlaaLb
import Derived.Test.YtoemiahnilmdlaaWt
set_option linter.unusedVariables false
set_option linter.unusedSimpArgs false
namespace Go.E
open Go Go.RowKit Go.Proofs
theorem Rows.nofp {w : World} : ∀ {xs : List Int} {cs : List Value} {fp : List Nat}, Rows intR w xs cs fp → fp = []
  | [], _, _, h => h.2
  | x :: xs, _, _, h => by
    obtain ⟨c1, c2, f1, f2, rfl, rfl, h1, h2⟩ := h
    obtain ⟨_, rfl⟩ := h1
    rw [Rows.nofp h2]; rfl
theorem Src.nofp {w : World} {A : Option Addr} {xs : List Int} {fp : List Nat} (h : Src intR w A xs fp) : fp = [] := by
  obtain ⟨nw, hr, _⟩ := h
  exact Rows.nofp hr
attribute [local irreducible] W WL WD WE thenE inE retQ PureOp Keep Cell Cells Blk Sl Rows Own Src Fresh

/-- the regret after the first n lists of weights: a fraction and the list it is at -/
def regSt (L : List Itm) (ids : List Int) : Nat → Int × Int × List Int
  | 0 => (0, 1, [])
  | n + 1 =>
    if (bestUtil L (idsOf L) (gi weightLists (n : Int)) - bestUtil L ids (gi weightLists (n : Int))) * (regSt L ids n).2.1 > (regSt L ids n).1 * bestUtil L (idsOf L) (gi weightLists (n : Int)) then
      (bestUtil L (idsOf L) (gi weightLists (n : Int)) - bestUtil L ids (gi weightLists (n : Int)), bestUtil L (idsOf L) (gi weightLists (n : Int)), gi weightLists (n : Int))
    else regSt L ids n
def regret (L : List Itm) (ids : List Int) : Int × Int × List Int := if areItems L && areKnown L ids then regSt L ids 63 else (0, 1, [])
theorem bestUtil_bd (L : List Itm) (ids ws : List Int) : 0 ≤ bestUtil L ids ws ∧ bestUtil L ids ws ≤ 81 := bestU_bd L ids ws L.length
theorem wls_len : weightLists.length = 63 := by decide
theorem wls_each : ∀ i : Nat, (gi weightLists (i : Int)).length ≤ 3 := by
  intro i
  have h : weightLists.all (fun x => decide (x.length ≤ 3)) = true := by decide
  by_cases hi : i < weightLists.length
  · rw [gi_lt hi]
    simpa using List.all_eq_true.1 h _ (List.getElem_mem hi)
  · have : gi weightLists (i : Int) = [] := by simp only [gi, Int.toNat_natCast, List.getD_eq_getElem?_getD, List.getElem?_eq_none (Nat.le_of_not_lt hi)]; rfl
    rw [this]; exact Nat.zero_le _
theorem mul_pos_bd {a b : Int} (ha : -81 ≤ a ∧ a ≤ 81) (hb : 0 ≤ b ∧ b ≤ 81) : -6561 ≤ a * b ∧ a * b ≤ 6561 := by
  constructor
  · calc -6561 ≤ -81 * b := by omega
      _ ≤ a * b := Int.mul_le_mul_of_nonneg_right ha.1 hb.1
  · calc a * b ≤ 81 * b := Int.mul_le_mul_of_nonneg_right ha.2 hb.1
      _ ≤ 6561 := by omega
theorem regSt_bd (L : List Itm) (ids : List Int) (n : Nat) : (0 ≤ (regSt L ids n).1 ∧ (regSt L ids n).1 ≤ 81) ∧ (1 ≤ (regSt L ids n).2.1 ∧ (regSt L ids n).2.1 ≤ 81) ∧ (regSt L ids n).2.2.length ≤ 3 := by
  induction n with
  | zero => simp [regSt]
  | succ n ih =>
    simp only [regSt]
    split
    · rename_i h
      obtain ⟨h1, h2, h3⟩ := ih
      have ha := bestUtil_bd L (idsOf L) (gi weightLists (n : Int))
      have hi := bestUtil_bd L ids (gi weightLists (n : Int))
      have h0 : 0 ≤ (regSt L ids n).1 * bestUtil L (idsOf L) (gi weightLists (n : Int)) := Int.mul_nonneg h1.1 ha.1
      have hpos : 0 < bestUtil L (idsOf L) (gi weightLists (n : Int)) - bestUtil L ids (gi weightLists (n : Int)) := by
        rcases Int.lt_or_le 0 (bestUtil L (idsOf L) (gi weightLists (n : Int)) - bestUtil L ids (gi weightLists (n : Int))) with h4 | h4
        · exact h4
        · have : (bestUtil L (idsOf L) (gi weightLists (n : Int)) - bestUtil L ids (gi weightLists (n : Int))) * (regSt L ids n).2.1 ≤ 0 := Int.mul_nonpos_of_nonpos_of_nonneg h4 (by omega)
          omega
      refine ⟨⟨?_, ?_⟩, ⟨?_, ?_⟩, wls_each n⟩ <;> dsimp only <;> omega
    · exact ih
/-- where the best of all is 0, nothing is lost -/
theorem reg_zero {L : List Itm} {ids ws : List Int} {num den : Int} (hd : 1 ≤ den) (h0 : ¬ 0 < bestUtil L (idsOf L) ws) :
    ¬ (bestUtil L (idsOf L) ws - bestUtil L ids ws) * den > num * bestUtil L (idsOf L) ws := by
  have ha := bestUtil_bd L (idsOf L) ws
  have hi := bestUtil_bd L ids ws
  have e : bestUtil L (idsOf L) ws = 0 := by omega
  rw [e, Int.mul_zero]
  have : (0 - bestUtil L ids ws) * den ≤ 0 := Int.mul_nonpos_of_nonpos_of_nonneg (by omega) (by omega)
  omega
theorem regret_bd (L : List Itm) (ids : List Int) : (0 ≤ (regret L ids).1 ∧ (regret L ids).1 ≤ 81) ∧ (1 ≤ (regret L ids).2.1 ∧ (regret L ids).2.1 ≤ 81) ∧ (regret L ids).2.2.length ≤ 3 := by
  unfold regret
  split
  · exact regSt_bd L ids 63
  · simp
theorem regSt_succ (L : List Itm) (ids : List Int) (n : Nat) : regSt L ids (n + 1) = if (bestUtil L (idsOf L) (gi weightLists (n : Int)) - bestUtil L ids (gi weightLists (n : Int))) * (regSt L ids n).2.1 > (regSt L ids n).1 * bestUtil L (idsOf L) (gi weightLists (n : Int)) then
      (bestUtil L (idsOf L) (gi weightLists (n : Int)) - bestUtil L ids (gi weightLists (n : Int)), bestUtil L (idsOf L) (gi weightLists (n : Int)), gi weightLists (n : Int))
    else regSt L ids n := rfl
attribute [local irreducible] weightLists bestUtil regSt

set_option maxHeartbeats 1000000 in
theorem spec_RegretOf_ok {w : World} {v v1 : Value} {L : List Itm} {ids : List Int} {fp fp1 : List Nat} (hL : Sl itemR w v L fp) (hi : Sl intR w v1 ids fp1) :
    Run Try.prog 24 [v, v1] w (fun r w' => Keep w w' ∧ ∃ u fp, r = .tuple #[.int .i64 (regret L ids).1, .int .i64 (regret L ids).2.1, u] ∧ Sl intR w' u (regret L ids).2.2 fp ∧ Fresh w.heap.size w' fp) := by
  refine Run_intro Try.func24 (by unfold CallOk; kernel_rfl) rfl Try.ntmps24 (Nat.le_of_ble_eq_true rfl) ?_
  simp only [penv, Nat.reduceAdd, Nat.zero_add]
  repeat refine zz ?_
  refine o_buildSlice rfl rfl rfl rfl rfl (by intro p hp; cases hp) (by omega) ?_
  intro b0 w1 hal
  have hk := hal.kp
  have ho1 : OwnF intR w1 w.heap.size 3 (.slice (some ⟨b0, 0, none⟩) 0 0) [] [] := OwnF.made hal.blk (by have := hal.b_eq; omega)
  obtain ⟨f0, hs0, hf0⟩ := ho1.sl (by decide)
  replace hL := hL.keep hk
  replace hi := hi.keep hk
  repeat refine zz ?_
  refine o_call rfl rfl rfl (spec_AreItems_ok hL) ?_
  rintro _ w2 ⟨rfl, hk2⟩
  replace hL := hL.keep hk2
  replace hi := hi.keep hk2
  replace hk := hk.keep hk2
  replace hs0 := hs0.keep hk2
  replace hf0 := hf0.keep hk2
  repeat refine zz ?_
  refine WL_part rfl rfl (fun h => ?_) (fun h => ?_)
  · repeat refine zz ?_
    simp at h
    exact ret3 rfl rfl rfl rfl ⟨hk, _, _, by rw [regret, h]; rfl, by rw [regret, h]; exact hs0, hf0⟩
  · simp at h
    repeat refine zz ?_
    refine o_call rfl rfl rfl (l8Known_ok hL hi) ?_
    rintro _ _ ⟨rfl, rfl⟩
    repeat refine zz ?_
    refine W_cond rfl (fun h2 => ?_) (fun h2 => ?_)
    · repeat refine zz ?_
      simp at h2
      exact ret3 rfl rfl rfl rfl ⟨hk, _, _, by rw [regret, h, h2]; rfl, by rw [regret, h, h2]; exact hs0, hf0⟩
    · simp at h2
      have hln : L.length ≤ 16 := by simp [areItems] at h; exact h.2
      have hreg : regret L ids = regSt L ids 63 := by rw [regret, h, h2]; rfl
      repeat refine zz ?_
      refine o_call rfl rfl rfl (spec_IdsOf_ok hL (by omega)) ?_
      rintro v3 w3 ⟨hk3, f3, hs3, hf3⟩
      replace hL := hL.keep hk3
      replace hi := hi.keep hk3
      replace hk := hk.keep hk3
      replace hs0 := hs0.keep hk3
      repeat refine zz ?_
      refine o_call rfl rfl rfl (spec_WeightLists_ok _) ?_
      rintro v4 w4 ⟨hk4, f4, hs4, hf4⟩
      replace hL := hL.keep hk4
      replace hi := hi.keep hk4
      replace hk := hk.keep hk4
      replace hs0 := hs0.keep hk4
      replace hs3 := hs3.keep hk4
      obtain ⟨A, n, c, rfl, hn⟩ := hs4.split
      rw [wls_len] at hn
      subst hn
      repeat refine zz ?_
      refine W_loop (S := Nat × Value × List Nat) (fun s => [(0, v), (1, v1), (7, .int .i64 (regSt L ids s.1).1), (8, .int .i64 (regSt L ids s.1).2.1), (9, s.2.1), (10, v3), (11, .slice A 63 c), (12, .int .i64 (s.1 : Int))]) (fun s w' => Keep w4 w' ∧ s.1 ≤ 63 ∧ Sl intR w' s.2.1 (regSt L ids s.1).2.2 s.2.2) (fun s => 63 - s.1) (0, _, f0) ⟨rfl, rfl, find_int rfl (by unfold regSt; rfl), find_int rfl (by unfold regSt; rfl), rfl, rfl, rfl, rfl, trivial⟩ ⟨Keep.refl _, by omega, by unfold regSt; exact hs0⟩ ?_
      rintro ⟨i, va, fa⟩ w5 ⟨hk5, hi5, hva⟩
      dsimp only at hi5 hva ⊢
      replace hL := hL.keep hk5
      replace hi := hi.keep hk5
      replace hk := hk.keep hk5
      replace hs3 := hs3.keep hk5
      replace hs4 := hs4.keep hk5
      repeat refine zz ?_
      refine W_cond rfl (fun hc => ?_) (fun hc => ?_)
      · have hin : i < 63 := by simp at hc; omega
        obtain ⟨hA, u, fu, hcell, hu, _⟩ := slR_get hs4 (i := (i : Int)) (by omega) (by omega)
        have hb1 := bestUtil_bd L (idsOf L) (gi weightLists (i : Int))
        have hb2 := bestUtil_bd L ids (gi weightLists (i : Int))
        have hb3 := regSt_bd L ids i
        repeat refine zz ?_
        refine o_call rfl rfl rfl (spec_BestUtility_ok hL hs3 hu) ?_
        rintro _ w6 ⟨rfl, hk6⟩
        replace hL := hL.keep hk6
        replace hi := hi.keep hk6
        replace hk := hk.keep hk6
        replace hcell := hcell.keep hk6
        replace hu := hu.keep hk6
        replace hva := hva.keep hk6
        replace hk5 := hk5.keep hk6
        repeat refine zz ?_
        refine o_call rfl rfl rfl (spec_BestUtility_ok hL hi hu) ?_
        rintro _ w7 ⟨rfl, hk7⟩
        replace hk := hk.keep hk7
        replace hcell := hcell.keep hk7
        replace hu := hu.keep hk7
        replace hva := hva.keep hk7
        replace hk5 := hk5.keep hk7
        repeat refine zz ?_
        have hm1 := mul_pos_bd (a := bestUtil L (idsOf L) (gi weightLists (i : Int)) - bestUtil L ids (gi weightLists (i : Int))) (b := (regSt L ids i).2.1) (by omega) (by omega)
        have hm2 := mul_pos_bd (a := (regSt L ids i).1) (b := bestUtil L (idsOf L) (gi weightLists (i : Int))) (by omega) (by omega)
        refine WL_pure rfl rfl (o_mul rfl rfl (by omega)) ?_
        repeat refine zz ?_
        refine WL_pure rfl rfl (o_mul rfl rfl (by omega)) ?_
        repeat refine zz ?_
        refine W_cond rfl (fun hd => ?_) (fun hd => ?_)
        · simp at hd
          repeat refine zz ?_
          have e : regSt L ids (i + 1) = (bestUtil L (idsOf L) (gi weightLists (i : Int)) - bestUtil L ids (gi weightLists (i : Int)), bestUtil L (idsOf L) (gi weightLists (i : Int)), gi weightLists (i : Int)) := by rw [regSt_succ, if_pos (by omega)]
          exact ⟨(i + 1, u, fu), ⟨rfl, rfl, find_int rfl (by dsimp only; rw [e]), find_int rfl (by dsimp only; rw [e]), rfl, rfl, rfl, rfl, trivial⟩, ⟨hk5, by dsimp only; omega, by dsimp only; rw [e]; exact hu⟩, by dsimp only; omega⟩
        · simp at hd
          repeat refine zz ?_
          have e : regSt L ids (i + 1) = regSt L ids i := by rw [regSt_succ, if_neg (by omega)]
          exact ⟨(i + 1, va, fa), ⟨rfl, rfl, find_int rfl (by dsimp only; rw [e]), find_int rfl (by dsimp only; rw [e]), rfl, rfl, rfl, rfl, trivial⟩, ⟨hk5, by dsimp only; omega, by dsimp only; rw [e]; exact hva⟩, by dsimp only; omega⟩
      · simp at hc
        obtain rfl : i = 63 := by omega
        have hb3 := regSt_bd L ids 63
        repeat refine zz ?_
        refine o_buildSlice rfl rfl rfl rfl rfl (by intro p hp; cases hp) (by omega) ?_
        intro b6 w6 hal6
        have hkz := hk.size_le
        have ho6 : OwnF intR w6 w.heap.size 3 (.slice (some ⟨b6, 0, none⟩) 0 0) [] [] := OwnF.made hal6.blk (by have := hal6.b_eq; omega)
        replace hk := hk.keep hal6.kp
        replace hva := hva.keep hal6.kp
        have hkz := hal6.size
        obtain ⟨A9, n9, c9, rfl, hn9⟩ := hva.split
        obtain ⟨gi9, hsrc9, _⟩ := hva.src
        have hgi : gi9 = [] := hsrc9.nofp
        subst hgi
        repeat refine zz ?_
        refine o_appendF (R := intR) (M := w6.heap.size) (gi := []) rfl rfl rfl rfl rfl (by decide) ho6 hsrc9 hn9 (Fresh.nil _ _) (fun b hb => by simp at hb) (fun b hb => (ho6.lt hb).2) (fun b hb => by simp at hb) (by simp only [List.length_nil]; omega) (by simp only [List.length_nil]; omega) (by omega) ?_
        intro v7 w7 ho7 hb7 hg7
        have hk7 : Keep w w7 := hk.grown hg7 (fun b hb => (ho6.lt hb).1)
        repeat refine zz ?_
        obtain ⟨fp, hs, hf⟩ := ho7.sl (by decide)
        exact ret3 rfl rfl rfl rfl ⟨hk7, _, _, by rw [hreg], by rw [hreg]; exact hs, hf⟩
set_option maxHeartbeats 1000000 in
theorem impl_RegretOf_ok {w : World} {v v1 : Value} {L : List Itm} {ids : List Int} {fp fp1 : List Nat} (hL : Sl itemR w v L fp) (hi : Sl intR w v1 ids fp1) :
    Run Try.prog 23 [v, v1] w (fun r w' => Keep w w' ∧ ∃ u fp, r = .tuple #[.int .i64 (regret L ids).1, .int .i64 (regret L ids).2.1, u] ∧ Sl intR w' u (regret L ids).2.2 fp ∧ Fresh w.heap.size w' fp) := by
  refine Run_intro Try.func23 (by unfold CallOk; kernel_rfl) rfl Try.ntmps23 (Nat.le_of_ble_eq_true rfl) ?_
  simp only [penv, Nat.reduceAdd, Nat.zero_add]
  repeat refine zz ?_
  refine o_buildSlice rfl rfl rfl rfl rfl (by intro p hp; cases hp) (by omega) ?_
  intro b0 w1 hal
  have hk := hal.kp
  have ho1 : OwnF intR w1 w.heap.size 3 (.slice (some ⟨b0, 0, none⟩) 0 0) [] [] := OwnF.made hal.blk (by have := hal.b_eq; omega)
  obtain ⟨f0, hs0, hf0⟩ := ho1.sl (by decide)
  replace hL := hL.keep hk
  replace hi := hi.keep hk
  repeat refine zz ?_
  refine o_call rfl rfl rfl (impl_AreItems_ok hL) ?_
  rintro _ w2 ⟨rfl, hk2⟩
  replace hL := hL.keep hk2
  replace hi := hi.keep hk2
  replace hk := hk.keep hk2
  replace hs0 := hs0.keep hk2
  replace hf0 := hf0.keep hk2
  repeat refine zz ?_
  refine WL_part rfl rfl (fun h => ?_) (fun h => ?_)
  · repeat refine zz ?_
    simp at h
    exact ret3 rfl rfl rfl rfl ⟨hk, _, _, by rw [regret, h]; rfl, by rw [regret, h]; exact hs0, hf0⟩
  · simp at h
    repeat refine zz ?_
    refine o_call rfl rfl rfl (areIds_ok hL hi) ?_
    rintro _ w3 ⟨rfl, hk3⟩
    replace hL := hL.keep hk3
    replace hi := hi.keep hk3
    replace hk := hk.keep hk3
    replace hs0 := hs0.keep hk3
    replace hf0 := hf0.keep hk3
    repeat refine zz ?_
    refine W_cond rfl (fun h2 => ?_) (fun h2 => ?_)
    · repeat refine zz ?_
      simp at h2
      exact ret3 rfl rfl rfl rfl ⟨hk, _, _, by rw [regret, h, h2]; rfl, by rw [regret, h, h2]; exact hs0, hf0⟩
    · simp at h2
      have hln : L.length ≤ 16 := by simp [areItems] at h; exact h.2
      have hreg : regret L ids = regSt L ids 63 := by rw [regret, h, h2]; rfl
      repeat refine zz ?_
      refine o_call rfl rfl rfl (impl_WeightLists_ok _) ?_
      rintro v4 w4 ⟨hk4, f4, hs4, hf4⟩
      have hkz := hk.size_le
      replace hL := hL.keep hk4
      replace hi := hi.keep hk4
      replace hk := hk.keep hk4
      replace hs0 := hs0.keep hk4
      replace hf0 := hf0.keep hk4
      obtain ⟨A, n, c, rfl, hn⟩ := hs4.split
      rw [wls_len] at hn
      subst hn
      have hf4' := hf4.mono hkz
      repeat refine zz ?_
      refine W_loop (S := Nat × Value × List Nat) (fun s => [(0, v), (1, v1), (7, .int .i64 (regSt L ids s.1).1), (8, .int .i64 (regSt L ids s.1).2.1), (9, s.2.1), (27, .slice A 63 c), (28, .int .i64 63), (29, .int .i64 (s.1 : Int))]) (fun s w' => Keep w4 w' ∧ s.1 ≤ 63 ∧ Sl intR w' s.2.1 (regSt L ids s.1).2.2 s.2.2 ∧ Fresh w.heap.size w' s.2.2) (fun s => 63 - s.1) (0, _, f0) ⟨rfl, rfl, find_int rfl (by unfold regSt; rfl), find_int rfl (by unfold regSt; rfl), rfl, rfl, rfl, rfl, trivial⟩ ⟨Keep.refl _, by omega, by unfold regSt; exact hs0, hf0⟩ ?_
      rintro ⟨i, va, fa⟩ w5 ⟨hk5, hi5, hva, hfa⟩
      dsimp only at hi5 hva hfa ⊢
      replace hL := hL.keep hk5
      replace hi := hi.keep hk5
      replace hk := hk.keep hk5
      replace hs4 := hs4.keep hk5
      replace hf4' := hf4'.keep hk5
      repeat refine zz ?_
      refine W_cond rfl (fun hc => ?_) (fun hc => ?_)
      · have hin : i < 63 := by simp at hc; omega
        obtain ⟨hk', ck, fk, hnk, hsub, ⟨u, rfl, hu⟩, hcell0, hA, _⟩ := hs4.focusI hf4'.nd (by decide) hin
        have hfu := hf4'.sub hnk hsub
        rw [← gi_lt hk'] at hu
        have hcell := hcell0.one
        have hb1 := bestUtil_bd L (idsOf L) (gi weightLists (i : Int))
        have hb2 := bestUtil_bd L ids (gi weightLists (i : Int))
        have hb3 := regSt_bd L ids i
        repeat refine zz ?_
        refine o_call rfl rfl rfl (impl_IdsOf_ok hL (by omega)) ?_
        rintro v6 w6 ⟨hk6, f6, hs6, hf6⟩
        replace hL := hL.keep hk6
        replace hi := hi.keep hk6
        replace hk := hk.keep hk6
        replace hu := hu.keep hk6
        replace hfu := hfu.keep hk6
        replace hva := hva.keep hk6
        replace hfa := hfa.keep hk6
        replace hk5 := hk5.keep hk6
        repeat refine zz ?_
        refine o_call rfl rfl rfl (impl_BestUtility_ok hL hs6 hu) ?_
        rintro _ w7 ⟨rfl, hk7⟩
        replace hL := hL.keep hk7
        replace hi := hi.keep hk7
        replace hk := hk.keep hk7
        replace hu := hu.keep hk7
        replace hfu := hfu.keep hk7
        replace hva := hva.keep hk7
        replace hfa := hfa.keep hk7
        replace hk5 := hk5.keep hk7
        repeat refine zz ?_
        refine o_call rfl rfl rfl (impl_BestUtility_ok hL hi hu) ?_
        rintro _ w8 ⟨rfl, hk8⟩
        replace hk := hk.keep hk8
        replace hu := hu.keep hk8
        replace hfu := hfu.keep hk8
        replace hva := hva.keep hk8
        replace hfa := hfa.keep hk8
        replace hk5 := hk5.keep hk8
        repeat refine zz ?_
        have hm1 := mul_pos_bd (a := bestUtil L (idsOf L) (gi weightLists (i : Int)) - bestUtil L ids (gi weightLists (i : Int))) (b := (regSt L ids i).2.1) (by omega) (by omega)
        have hm2 := mul_pos_bd (a := (regSt L ids i).1) (b := bestUtil L (idsOf L) (gi weightLists (i : Int))) (by omega) (by omega)
        refine WL_part rfl rfl (fun hz => ?_) (fun hz => ?_)
        · repeat refine zz ?_
          refine WL_pure rfl rfl (o_mul rfl rfl (by omega)) ?_
          repeat refine zz ?_
          refine WL_pure rfl rfl (o_mul rfl rfl (by omega)) ?_
          repeat refine zz ?_
          refine W_cond rfl (fun hd => ?_) (fun hd => ?_)
          · simp at hd
            repeat refine zz ?_
            have e : regSt L ids (i + 1) = (bestUtil L (idsOf L) (gi weightLists (i : Int)) - bestUtil L ids (gi weightLists (i : Int)), bestUtil L (idsOf L) (gi weightLists (i : Int)), gi weightLists (i : Int)) := by rw [regSt_succ, if_pos (by omega)]
            exact ⟨(i + 1, u, fk), ⟨rfl, rfl, find_int rfl (by dsimp only; rw [e]), find_int rfl (by dsimp only; rw [e]), rfl, rfl, rfl, rfl, trivial⟩, ⟨hk5, by dsimp only; omega, by dsimp only; rw [e]; exact hu, hfu⟩, by dsimp only; omega⟩
          · simp at hd
            repeat refine zz ?_
            have e : regSt L ids (i + 1) = regSt L ids i := by rw [regSt_succ, if_neg (by omega)]
            exact ⟨(i + 1, va, fa), ⟨rfl, rfl, find_int rfl (by dsimp only; rw [e]), find_int rfl (by dsimp only; rw [e]), rfl, rfl, rfl, rfl, trivial⟩, ⟨hk5, by dsimp only; omega, by dsimp only; rw [e]; exact hva, hfa⟩, by dsimp only; omega⟩
        · simp at hz
          repeat refine zz ?_
          have e : regSt L ids (i + 1) = regSt L ids i := by rw [regSt_succ, if_neg (reg_zero hb3.2.1.1 (by omega))]
          exact ⟨(i + 1, va, fa), ⟨rfl, rfl, find_int rfl (by dsimp only; rw [e]), find_int rfl (by dsimp only; rw [e]), rfl, rfl, rfl, rfl, trivial⟩, ⟨hk5, by dsimp only; omega, by dsimp only; rw [e]; exact hva, hfa⟩, by dsimp only; omega⟩
      · simp at hc
        obtain rfl : i = 63 := by omega
        repeat refine zz ?_
        exact ret3 rfl rfl rfl rfl ⟨hk, _, _, by rw [hreg], by rw [hreg]; exact hva, hfa⟩
end Go.E
