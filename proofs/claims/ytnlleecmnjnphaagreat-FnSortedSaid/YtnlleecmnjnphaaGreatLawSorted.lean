/-
  'FnSorted' holds for every input: it returns true, and the input reads as it did. Conditions: none.
-/
import Derived.Test.YtnlleecmnjnphaaGreatDx
import Derived.Test.YtnlleecmnjnphaaGreatLw
import Derived.Test.YtnlleecmnjnphaaGreatEx
import Derived.Test.YtnlleecmnjnphaaGreatGs
import Derived.Test.YtnlleecmnjnphaaGreatT9
import Derived.Test.YtnlleecmnjnphaaGreatTb
import Derived.Test.YtnlleecmnjnphaaGreatTe
set_option linter.unusedVariables false
set_option linter.unusedSimpArgs false
namespace Go.E
open Go Go.RowKit Go.Proofs
theorem lowE_size {f : List Int} (h : isFieldList f = true) : (lowE f).length + totN (lowE f) ≤ 6 := by
  have h1 := fieldList_len h
  have h2 := lowN_len f f.length
  have h3 := lowN_tot f f.length
  unfold lowE
  rw [if_pos h]; omega
attribute [local irreducible] W WL WD WE thenE inE retQ PureOp Keep Cell Cells Blk Sl Rows Own Src Fresh
attribute [local irreducible] sortedBest boxBest bestItems lowE isFieldList areItems sortedIds totN

set_option maxHeartbeats 8000000 in
theorem law_Sorted {w : World} {vC : Value} {C : List Int} {pC : List Nat} (hC : Sl u8R w vC C pC) :
    Run Tryz.prog 3 [vC] w (fun r w' => r = .bool true ∧ Keep w w') := by
  refine Run_intro Tryz.func3 (by unfold CallOk; kernel_rfl) rfl Tryz.ntmps3 (Nat.le_of_ble_eq_true rfl) ?_
  simp only [penv, Nat.reduceAdd, Nat.zero_add]
  repeat refine zz ?_
  refine o_call rfl rfl rfl (big_ok hC) ?_
  rintro _ _ ⟨rfl, rfl⟩
  repeat refine zz ?_
  refine W_cond rfl (fun hbig => ?_) (fun hbig => ?_)
  · repeat refine zz ?_
    exact ret1 rfl rfl ⟨rfl, Keep.refl _⟩
  simp at hbig
  repeat refine zz ?_
  refine o_call rfl rfl rfl (DrawSortedBest_ok hC (by omega)) ?_
  rintro _ w1 ⟨hk, vl, vf, L, f, fl, ff, rfl, hL, hlL, hsL, hf, hlf⟩
  replace hC := hC.keep hk
  repeat refine zz ?_
  refine o_call rfl rfl rfl (impl_SortedBest_ok hL hf) ?_
  rintro _ w2 ⟨k2, va, fa, rfl, ha, _⟩
  replace hL := hL.keep k2
  replace hf := hf.keep k2
  replace hk := hk.keep k2
  replace hC := hC.keep k2
  repeat refine zz ?_
  refine o_call rfl rfl rfl (spec_SortedBest_ok hL hf) ?_
  rintro _ w3 ⟨k3, vb, fb, rfl, hb, _⟩
  replace hL := hL.keep k3
  replace hf := hf.keep k3
  replace hk := hk.keep k3
  replace hC := hC.keep k3
  replace ha := ha.keep k3
  repeat refine zz ?_
  refine o_call rfl rfl rfl (impl_BoxBest_ok hL hf) ?_
  rintro _ w4 ⟨k4, vc, fc, rfl, hc, _⟩
  replace hL := hL.keep k4
  replace hf := hf.keep k4
  replace hk := hk.keep k4
  replace hC := hC.keep k4
  replace ha := ha.keep k4
  replace hb := hb.keep k4
  repeat refine zz ?_
  refine o_call rfl rfl rfl (spec_BoxBest_ok hL hf) ?_
  rintro _ w5 ⟨k5, vd, fd, rfl, _, _⟩
  replace hL := hL.keep k5
  replace hf := hf.keep k5
  replace hk := hk.keep k5
  replace hC := hC.keep k5
  replace ha := ha.keep k5
  replace hb := hb.keep k5
  replace hc := hc.keep k5
  repeat refine zz ?_
  refine o_call rfl rfl rfl (impl_LowExpression_ok hf) ?_
  rintro _ w6 ⟨k6, ve, fe, rfl, he, _⟩
  replace hL := hL.keep k6
  replace hf := hf.keep k6
  replace hk := hk.keep k6
  replace hC := hC.keep k6
  replace ha := ha.keep k6
  replace hb := hb.keep k6
  replace hc := hc.keep k6
  repeat refine zz ?_
  refine o_call rfl rfl rfl (spec_LowExpression_ok hf) ?_
  rintro _ w7 ⟨k7, vx, fx, rfl, hx, _⟩
  replace hL := hL.keep k7
  replace hf := hf.keep k7
  replace hk := hk.keep k7
  replace hC := hC.keep k7
  replace ha := ha.keep k7
  replace hb := hb.keep k7
  replace hc := hc.keep k7
  replace he := he.keep k7
  have hrd := sorted_reads L f
  have hvi := box_visited L f
  obtain ⟨Al, nl, cl, rfl, hnl⟩ := hL.split
  obtain ⟨Af, nf, cf_, rfl, hnf⟩ := hf.split
  obtain ⟨Aa, na, ca, rfl, hna⟩ := ha.split
  obtain ⟨Ac, nc, cc, rfl, hnc⟩ := hc.split
  repeat refine zz ?_
  try (refine WL_part rfl rfl (fun hc => by exfalso; first | (simp at hc; done) | (simp at hc; omega) | omega) (fun _ => ?_))
  repeat refine zz ?_
  refine o_call rfl rfl rfl (sameInts_same ha hb) ?_
  rintro _ w8 ⟨rfl, k8⟩
  replace hL := hL.keep k8
  replace hf := hf.keep k8
  replace hk := hk.keep k8
  replace hC := hC.keep k8
  replace ha := ha.keep k8
  replace hc := hc.keep k8
  replace he := he.keep k8
  replace hx := hx.keep k8
  repeat refine zz ?_
  try (refine WL_part rfl rfl (fun hc => by exfalso; first | (simp at hc; done) | (simp at hc; omega) | omega) (fun _ => ?_))
  repeat refine zz ?_
  try (refine WL_part rfl rfl (fun hc => by exfalso; first | (simp at hc; done) | (simp at hc; omega) | omega) (fun _ => ?_))
  repeat refine zz ?_
  try (refine WL_part rfl rfl (fun hc => by exfalso; first | (simp at hc; done) | (simp at hc; omega) | omega) (fun _ => ?_))
  repeat refine zz ?_
  refine o_call rfl rfl rfl (spec_EqualExpressions_ok he hx) ?_
  rintro _ w9 ⟨rfl, k9⟩
  rw [decide_eq_true (rfl : lowE f = lowE f)]
  replace hL := hL.keep k9
  replace hf := hf.keep k9
  replace hk := hk.keep k9
  replace hC := hC.keep k9
  replace ha := ha.keep k9
  replace hc := hc.keep k9
  replace hx := hx.keep k9
  clear he hb
  repeat refine zz ?_
  try (refine WL_part rfl rfl (fun hc => by exfalso; first | (simp at hc; done) | (simp at hc; omega) | omega) (fun _ => ?_))
  repeat refine zz ?_
  refine o_call rfl rfl rfl (impl_IsFieldList_ok hf) ?_
  rintro _ _ ⟨rfl, rfl⟩
  repeat refine zz ?_
  refine o_call rfl rfl rfl (spec_IsFieldList_ok hf) ?_
  rintro _ w10 ⟨rfl, k10⟩
  replace hL := hL.keep k10
  replace hf := hf.keep k10
  replace hk := hk.keep k10
  replace hC := hC.keep k10
  replace ha := ha.keep k10
  replace hc := hc.keep k10
  replace hx := hx.keep k10
  repeat refine zz ?_
  try (refine W_cond rfl (fun hc => by exfalso; first | (simp at hc; done) | (simp at hc; omega) | omega) (fun _ => ?_))
  repeat refine zz ?_
  have stop : isFieldList f = false ∨ areItems L = false → na = 0 ∧ nc = 0 := fun h => by
    obtain ⟨h1, h2⟩ := none_best h
    rw [hna, hnc, h1, h2]; exact ⟨rfl, rfl⟩
  repeat refine zz ?_
  refine WL_part rfl rfl (fun h1 => ?_) (fun h1 => ?_)
  · simp at h1
    obtain ⟨rfl, rfl⟩ := stop (.inl h1)
    repeat refine zz ?_
    exact ret1 rfl rfl ⟨rfl, hk⟩
  simp at h1
  repeat refine zz ?_
  refine o_call rfl rfl rfl (spec_AreItems_ok hL) ?_
  rintro _ w11 ⟨rfl, k11⟩
  replace hL := hL.keep k11
  replace hf := hf.keep k11
  replace hk := hk.keep k11
  replace hC := hC.keep k11
  replace ha := ha.keep k11
  replace hc := hc.keep k11
  replace hx := hx.keep k11
  repeat refine zz ?_
  refine W_cond rfl (fun h2 => ?_) (fun h2 => ?_)
  · simp at h2
    obtain ⟨rfl, rfl⟩ := stop (.inr h2)
    repeat refine zz ?_
    exact ret1 rfl rfl ⟨rfl, hk⟩
  simp at h2
  rw [sorted_best h2 h1] at ha
  rw [box_best h2 h1] at hc
  have hl16 := (areItems_at h2).2
  have hf3 := fieldList_len h1
  repeat refine zz ?_
  refine o_call rfl rfl rfl (spec_BestItems_ok hL hx (by have := lowE_size h1; omega)) ?_
  rintro vw w12 ⟨k12, fw, hw, _⟩
  replace hk := hk.keep k12
  replace hC := hC.keep k12
  replace ha := ha.keep k12
  replace hc := hc.keep k12
  repeat refine zz ?_
  refine o_call rfl rfl rfl (DrawSortByField_ok hC (by omega)) ?_
  rintro _ w13 ⟨k13, vy, Y, fy, q, rfl, hY, hlY, hsY⟩
  replace hk := hk.keep k13
  replace ha := ha.keep k13
  replace hc := hc.keep k13
  replace hw := hw.keep k13
  repeat refine zz ?_
  refine o_call rfl rfl rfl (sameInts_same ha hw) ?_
  rintro _ w14 ⟨rfl, k14⟩
  replace hk := hk.keep k14
  replace hc := hc.keep k14
  replace hw := hw.keep k14
  replace hY := hY.keep k14
  repeat refine zz ?_
  refine o_call rfl rfl rfl (sameInts_same hc hw) ?_
  rintro _ w15 ⟨rfl, k15⟩
  replace hk := hk.keep k15
  replace hY := hY.keep k15
  repeat refine zz ?_
  have hm : 0 ≤ (nl : Int) * (nf : Int) ∧ (nl : Int) * (nf : Int) ≤ 16 * 3 := ⟨Int.mul_nonneg (by omega) (by omega), Int.mul_le_mul (by omega) (by omega) (by omega) (by omega)⟩
  rw [← hnl, ← hnf] at hrd
  rw [← hnl] at hvi
  refine WL_pure rfl rfl (o_mul rfl rfl (by omega)) ?_
  repeat refine zz ?_
  refine WL_part rfl rfl (fun _ => ?_) (fun hx => by exfalso; simp only [decide_eq_false_iff_not] at hx; exact hx hrd)
  repeat refine zz ?_
  refine WL_part rfl rfl (fun _ => ?_) (fun hx => by exfalso; simp only [decide_eq_false_iff_not] at hx; exact hx hvi)
  repeat refine zz ?_
  refine o_call rfl rfl rfl (impl_SortByField_ok hY q) ?_
  rintro vm w16 ⟨k16, fm, hm1, _⟩
  replace hk := hk.keep k16
  replace hY := hY.keep k16
  repeat refine zz ?_
  refine o_call rfl rfl rfl (spec_SortByField_ok hY q) ?_
  rintro vn w17 ⟨k17, fn, hn1, _⟩
  replace hk := hk.keep k17
  replace hm1 := hm1.keep k17
  repeat refine zz ?_
  refine o_call rfl rfl rfl (sameInts_same hm1 hn1) ?_
  rintro _ w18 ⟨rfl, k18⟩
  replace hk := hk.keep k18
  repeat refine zz ?_
  exact ret1 rfl rfl ⟨rfl, hk⟩
end Go.E
