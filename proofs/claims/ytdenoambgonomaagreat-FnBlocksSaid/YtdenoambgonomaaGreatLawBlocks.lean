/-
  'FnBlocks' holds for every input: it returns true, and the input reads as it did. Conditions: none.
-/
import Derived.Test.YtdenoambgonomaaGreatDk
import Derived.Test.YtdenoambgonomaaGreatLw
import Derived.Test.YtdenoambgonomaaGreatBb
import Derived.Test.YtdenoambgonomaaGreatBn
import Derived.Test.YtdenoambgonomaaGreatM7
set_option linter.unusedVariables false
set_option linter.unusedSimpArgs false
namespace Go.E
open Go Go.RowKit Go.Proofs
theorem ret4' {P : Program} {N : Nat} {fn : Func} {R : Value → World → Prop} {e : Env} {w : World} {t : Tmp} {v : Value} (hr : fn.results = #[.tmp t]) (hv : find e t = some v) (h : R v w) : retQ P N fn R .ret e w := ret1 hr hv h
attribute [local irreducible] W WL WD WE thenE inE retQ PureOp Keep Cell Cells Blk Sl Rows Own Src Fresh

theorem btoi_ok {w : World} {q : Bool} : Run Tryz.prog 45 [.bool q] w (fun r w' => r = .int .i64 (if q then 1 else 0) ∧ w = w') := by
  refine Run_intro Tryz.func45 (by unfold CallOk; kernel_rfl) rfl Tryz.ntmps45 (Nat.le_of_ble_eq_true rfl) ?_
  simp only [penv, Nat.reduceAdd, Nat.zero_add]
  repeat refine zz ?_
  refine W_cond rfl (fun h => ?_) (fun h => ?_)
  · repeat refine zz ?_
    exact ret1 rfl rfl ⟨by rw [h]; rfl, rfl⟩
  · repeat refine zz ?_
    exact ret1 rfl rfl ⟨by rw [h]; rfl, rfl⟩

set_option maxHeartbeats 4000000 in
theorem law_Blocks {w : World} {vC : Value} {C : List Int} {pC : List Nat} (hC : Sl u8R w vC C pC) :
    Run Tryz.prog 6 [vC] w (fun r w' => r = .bool true ∧ Keep w w') := by
  refine Run_intro Tryz.func6 (by unfold CallOk; kernel_rfl) rfl Tryz.ntmps6 (Nat.le_of_ble_eq_true rfl) ?_
  simp only [penv, Nat.reduceAdd, Nat.zero_add]
  repeat refine zz ?_
  refine o_call rfl rfl rfl (big_ok hC) ?_
  rintro _ _ ⟨rfl, rfl⟩
  repeat refine zz ?_
  refine W_cond rfl (fun hbig => ?_) (fun hbig => ?_)
  · repeat refine zz ?_
    exact ret1 rfl rfl ⟨rfl, Keep.refl _⟩
  simp at hbig
  repeat refine zz ?_
  refine o_call rfl rfl rfl (DrawBlockBest_ok hC (by omega)) ?_
  rintro _ w1 ⟨hk, vl, ve, L, e, fl, fe, q, rfl, hL, hlL, hsL, he, hle, hse⟩
  have hn : e.length + totN e ≤ 1048576 := by have := smallE_tot hse; omega
  replace hC := hC.keep hk
  repeat refine zz ?_
  refine o_call rfl rfl rfl (impl_BlockBest_ok hL he q hn) ?_
  rintro _ w2 ⟨k2, va, fa, rfl, ha, _⟩
  replace hL := hL.keep k2
  replace he := he.keep k2
  replace hk := hk.keep k2
  replace hC := hC.keep k2
  repeat refine zz ?_
  refine o_call rfl rfl rfl (spec_BlockBest_ok hL he q hn) ?_
  rintro _ w3 ⟨k3, vb, fb, rfl, hb, _⟩
  replace hL := hL.keep k3
  replace he := he.keep k3
  replace hk := hk.keep k3
  replace hC := hC.keep k3
  replace ha := ha.keep k3
  repeat refine zz ?_
  refine o_call rfl rfl rfl (impl_DivideBest_ok hL he hn) ?_
  rintro _ w4 ⟨k4, vc, fc, rfl, hc, _⟩
  replace hL := hL.keep k4
  replace he := he.keep k4
  replace hk := hk.keep k4
  replace hC := hC.keep k4
  replace ha := ha.keep k4
  replace hb := hb.keep k4
  repeat refine zz ?_
  refine o_call rfl rfl rfl (spec_DivideBest_ok hL he hn) ?_
  rintro _ w5 ⟨k5, vd, fd, rfl, _, _⟩
  replace hL := hL.keep k5
  replace he := he.keep k5
  replace hk := hk.keep k5
  replace hC := hC.keep k5
  replace ha := ha.keep k5
  replace hb := hb.keep k5
  replace hc := hc.keep k5
  repeat refine zz ?_
  try (refine WL_part rfl rfl (fun hc => by exfalso; first | (simp at hc; done) | (simp at hc; omega) | omega) (fun _ => ?_))
  repeat refine zz ?_
  refine o_call rfl rfl rfl (sameInts_same ha hb) ?_
  rintro _ w6 ⟨rfl, k6⟩
  replace hL := hL.keep k6
  replace he := he.keep k6
  replace hk := hk.keep k6
  replace hC := hC.keep k6
  replace hc := hc.keep k6
  have hpp := block_passes L e q
  obtain ⟨Al, nl, cl, rfl, hnl⟩ := hL.split
  repeat refine zz ?_
  try (refine WL_part rfl rfl (fun hc => by exfalso; first | (simp at hc; done) | (simp at hc; omega) | omega) (fun _ => ?_))
  repeat refine zz ?_
  try (refine W_cond rfl (fun hc => by exfalso; first | (simp at hc; done) | (simp at hc; omega) | omega) (fun _ => ?_))
  repeat refine zz ?_
  refine o_call rfl rfl rfl (spec_AreItems_ok hL) ?_
  rintro _ w7 ⟨rfl, k7⟩
  replace hL := hL.keep k7
  replace he := he.keep k7
  replace hk := hk.keep k7
  replace hC := hC.keep k7
  replace hc := hc.keep k7
  have mid : ∀ {w8 : World}, Keep w7 w8 → Keep w w8 ∧ Sl u8R w8 vC C pC := fun h => ⟨hk.keep h, hC.keep h⟩
  repeat refine zz ?_
  refine WL_part rfl rfl (fun h1 => ?_) (fun h1 => ?_)
  · repeat refine zz ?_
    refine o_call rfl rfl rfl (spec_IsExpression_ok he hn) ?_
    rintro _ w8 ⟨rfl, k8⟩
    replace hL := hL.keep k8
    replace he := he.keep k8
    replace hk := hk.keep k8
    replace hC := hC.keep k8
    replace hc := hc.keep k8
    repeat refine zz ?_
    refine o_call rfl rfl rfl (DrawMergeBest_ok hC (by omega)) ?_
    rintro _ w9 ⟨k9, vx, vy, vp, vq, X, Y, p, r, fx, fy, fp, fr, rfl, hX, hlX, hsX, hY, hlY, hsY, hp, hr, hlp, hlr⟩
    have hnY : Y.length + totN Y ≤ 1048576 := by have := smallE_tot hsY; omega
    replace hL := hL.keep k9
    replace he := he.keep k9
    replace hk := hk.keep k9
    replace hc := hc.keep k9
    repeat refine zz ?_
    refine o_call rfl rfl rfl (impl_MergeBest_ok hX hY hp hr hnY (by omega) (by omega)) ?_
    rintro vm w10 ⟨k10, fm, hm, _⟩
    replace hL := hL.keep k10
    replace he := he.keep k10
    replace hk := hk.keep k10
    replace hc := hc.keep k10
    replace hX := hX.keep k10
    replace hY := hY.keep k10
    replace hp := hp.keep k10
    replace hr := hr.keep k10
    repeat refine zz ?_
    refine o_call rfl rfl rfl (spec_MergeBest_ok hX hY hp hr hnY (by omega) (by omega)) ?_
    rintro vm2 w11 ⟨k11, fm2, hm2, _⟩
    replace hL := hL.keep k11
    replace he := he.keep k11
    replace hk := hk.keep k11
    replace hc := hc.keep k11
    replace hm := hm.keep k11
    repeat refine zz ?_
    refine o_call rfl rfl rfl (sameInts_same hm hm2) ?_
    rintro _ w12 ⟨rfl, k12⟩
    replace hL := hL.keep k12
    replace he := he.keep k12
    replace hk := hk.keep k12
    replace hc := hc.keep k12
    repeat refine zz ?_
    refine WL_part rfl rfl (fun h3 => ?_) (fun h3 => ?_)
    · repeat refine zz ?_
      exact ret1 rfl rfl ⟨rfl, hk⟩
    simp at h3
    have hf : fine L e = true := by simp [fine, h1, h3]
    obtain ⟨_, hln, _⟩ := fine_ok hf
    have ht := divide_tests hf
    have hd2 := divide_n L e
    rw [← hnl] at ht
    rw [divide_best hf] at hc
    repeat refine zz ?_
    refine o_call rfl rfl rfl (spec_BestItems_ok hL he hn) ?_
    rintro vb2 w13 ⟨k13, fb2, hb2, _⟩
    replace hL := hL.keep k13
    replace he := he.keep k13
    replace hk := hk.keep k13
    replace hc := hc.keep k13
    repeat refine zz ?_
    refine o_call rfl rfl rfl (sameInts_same hc hb2) ?_
    rintro _ w14 ⟨rfl, k14⟩
    replace hk := hk.keep k14
    have hm0 : 0 ≤ (nl : Int) * ((nl : Int) - 1) ∧ (nl : Int) * ((nl : Int) - 1) ≤ 256 := by
      rcases Nat.eq_zero_or_pos nl with h0 | h0
      · rw [h0]; simp
      · have := mul_le2 (a := (nl : Int)) (b := 16) (c := (nl : Int) - 1) (d := 16) (by omega) (by omega) (by omega) (by omega)
        omega
    repeat refine zz ?_
    refine WL_pure rfl rfl (o_mul rfl rfl (by omega)) ?_
    repeat refine zz ?_
    refine WL_pure rfl rfl (o_mul rfl rfl (by omega)) ?_
    repeat refine zz ?_
    refine WL_part rfl rfl (fun _ => ?_) (fun hx => by exfalso; simp only [decide_eq_false_iff_not] at hx; exact hx ht)
    repeat refine zz ?_
    refine WL_part rfl rfl (fun h5 => ?_) (fun h5 => ?_)
    · repeat refine zz ?_
      exact ret1 rfl rfl ⟨rfl, hk⟩
    simp only [decide_eq_false_iff_not] at h5
    repeat refine zz ?_
    refine WL_part rfl rfl (fun h6 => ?_) (fun h6 => ?_)
    · repeat refine zz ?_
      exact ret1 rfl rfl ⟨rfl, hk⟩
    simp only [decide_eq_false_iff_not] at h6
    have hbo := block_one (q := q) hf (by omega) (by omega)
    repeat refine zz ?_
    refine o_call rfl rfl rfl (btoi_ok) ?_
    rintro _ _ ⟨rfl, rfl⟩
    repeat refine zz ?_
    refine ret1 rfl rfl ⟨?_, hk⟩
    rw [hbo]
    by_cases h7 : 0 < L.length
    · rw [if_pos h7, if_pos (by rw [decide_eq_true_eq]; omega)]; rfl
    · rw [if_neg h7, if_neg (by rw [decide_eq_true_eq]; omega)]; rfl
  · repeat refine zz ?_
    refine o_call rfl rfl rfl (DrawMergeBest_ok hC (by omega)) ?_
    rintro _ w9 ⟨k9, vx, vy, vp, vq, X, Y, p, r, fx, fy, fp, fr, rfl, hX, hlX, hsX, hY, hlY, hsY, hp, hr, hlp, hlr⟩
    have hnY : Y.length + totN Y ≤ 1048576 := by have := smallE_tot hsY; omega
    replace hk := hk.keep k9
    repeat refine zz ?_
    refine o_call rfl rfl rfl (impl_MergeBest_ok hX hY hp hr hnY (by omega) (by omega)) ?_
    rintro vm w10 ⟨k10, fm, hm, _⟩
    replace hk := hk.keep k10
    replace hX := hX.keep k10
    replace hY := hY.keep k10
    replace hp := hp.keep k10
    replace hr := hr.keep k10
    repeat refine zz ?_
    refine o_call rfl rfl rfl (spec_MergeBest_ok hX hY hp hr hnY (by omega) (by omega)) ?_
    rintro vm2 w11 ⟨k11, fm2, hm2, _⟩
    replace hk := hk.keep k11
    replace hm := hm.keep k11
    repeat refine zz ?_
    refine o_call rfl rfl rfl (sameInts_same hm hm2) ?_
    rintro _ w12 ⟨rfl, k12⟩
    replace hk := hk.keep k12
    repeat refine zz ?_
    exact ret1 rfl rfl ⟨rfl, hk⟩
end Go.E
