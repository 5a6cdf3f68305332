/-
  'FnRewrites' holds for every input: it returns true, and the input reads as it did. Conditions: none.
-/
import Derived.Test.YtomkdoppjimhoaaDu
import Derived.Test.YtomkdoppjimhoaaNg
import Derived.Test.YtomkdoppjimhoaaLw
import Derived.Test.YtomkdoppjimhoaaCu
set_option linter.unusedVariables false
set_option linter.unusedSimpArgs false
namespace Go.E
open Go Go.RowKit Go.Proofs
attribute [local irreducible] W WL WD WE thenE inE retQ PureOp Keep Cell Cells Blk Sl Rows Own Src Fresh
attribute [local irreducible] isExpr applyR norm subT rewr agree totN

set_option maxHeartbeats 8000000 in
theorem law_Rewrites {w : World} {vC : Value} {C : List Int} {pC : List Nat} (hC : Sl u8R w vC C pC) :
    Run Try.prog 5 [vC] w (fun r w' => r = .bool true ∧ Keep w w') := by
  refine Run_intro Try.func5 (by unfold CallOk; kernel_rfl) rfl Try.ntmps5 (Nat.le_of_ble_eq_true rfl) ?_
  simp only [penv, Nat.reduceAdd, Nat.zero_add]
  repeat refine zz ?_
  refine o_call rfl rfl rfl (big_ok hC) ?_
  rintro _ _ ⟨rfl, rfl⟩
  repeat refine zz ?_
  refine W_cond rfl (fun hbig => ?_) (fun hbig => ?_)
  · repeat refine zz ?_
    exact ret1 rfl rfl ⟨rfl, Keep.refl _⟩
  simp at hbig
  repeat refine zz ?_
  refine o_call rfl rfl rfl (DrawApplyRule_ok hC (by omega)) ?_
  rintro _ w1 ⟨hk, ve, E, fe, rule, at_, rfl, hE, hlE, hsE⟩
  have hnE : E.length + totN E ≤ 1048576 := by have := smallE_tot hsE; omega
  replace hC := hC.keep hk
  repeat refine zz ?_
  refine o_call rfl rfl rfl (impl_ApplyRule_ok hE hnE rule at_) ?_
  rintro _ w2 ⟨k2, vx, f2, rfl, hox⟩
  obtain ⟨fx, hX, _⟩ := hox.sl (by decide)
  replace hE := hE.keep k2
  replace hk := hk.keep k2
  replace hC := hC.keep k2
  clear hox
  repeat refine zz ?_
  refine o_call rfl rfl rfl (spec_ApplyRule_ok hE hnE rule at_) ?_
  rintro _ w3 ⟨k3, vy, f3, rfl, hoy⟩
  obtain ⟨fy, hY, _⟩ := hoy.sl (by decide)
  replace hE := hE.keep k3
  replace hk := hk.keep k3
  replace hC := hC.keep k3
  replace hX := hX.keep k3
  clear hoy
  repeat refine zz ?_
  refine o_call rfl rfl rfl (DrawAreItems_ok hC (by omega)) ?_
  rintro vl w4 ⟨k4, L, fl, hL, hlL, hsL⟩
  replace hE := hE.keep k4
  replace hk := hk.keep k4
  replace hC := hC.keep k4
  replace hX := hX.keep k4
  replace hY := hY.keep k4
  refine zz ?_
  refine zz ?_
  refine zz ?_
  refine W_cutR [(0, vC), (10, vl), (78, .bool false)] (fun w' => Keep w4 w') ?_ ?_
  · intro w5 k5
    replace hL := hL.keep k5
    replace hk := hk.keep k5
    replace hC := hC.keep k5
    clear hE hX hY
    repeat refine zz ?_
    refine o_call rfl rfl rfl (DrawNormalizeExpression_ok hC (by omega)) ?_
    rintro vf w6 ⟨k6, F, ff, hF, hlF, hsF⟩
    have hnF : F.length + totN F ≤ 1048576 := by have := smallE_tot hsF; omega
    have hnN := norm_size hnF
    replace hL := hL.keep k6
    replace hk := hk.keep k6
    replace hC := hC.keep k6
    repeat refine zz ?_
    refine o_call rfl rfl rfl (impl_NormalizeExpression_ok hF hnF) ?_
    rintro vn w7 ⟨k7, fn, hN, _⟩
    replace hF := hF.keep k7
    replace hL := hL.keep k7
    replace hk := hk.keep k7
    replace hC := hC.keep k7
    refine zz ?_
    refine zz ?_
    refine zz ?_
    refine W_cutR [(0, vC), (10, vl), (12, vn), (98, .bool false)] (fun w' => Keep w7 w') ?_ ?_
    · intro w8 k8
      replace hN := hN.keep k8
      replace hL := hL.keep k8
      replace hk := hk.keep k8
      replace hC := hC.keep k8
      clear hF
      repeat refine zz ?_
      refine o_call rfl rfl rfl (impl_Rewritings_ok hN hnN) ?_
      rintro vr w9 ⟨k9, fr, hR, _⟩
      replace hN := hN.keep k9
      replace hL := hL.keep k9
      replace hk := hk.keep k9
      replace hC := hC.keep k9
      obtain ⟨Ar, nr, cr, rfl, hnr⟩ := hR.split
      have hr36 := (rewr_bd (E := norm F)).2
      repeat refine zz ?_
      refine W_loop (S := Nat) (fun k => [(0, vC), (10, vl), (12, vn), (13, .slice Ar nr cr), (14, .int .i64 (k : Int))]) (fun k w' => Keep w9 w' ∧ k ≤ nr) (fun k => nr - k) 0 ⟨rfl, rfl, rfl, rfl, rfl, trivial⟩ ⟨Keep.refl _, Nat.zero_le _⟩ ?_
      rintro k wa ⟨hka, hkn⟩
      have hRa := hR.keep hka
      have hNa := hN.keep hka
      have hLa := hL.keep hka
      repeat refine zz ?_
      refine W_cond rfl (fun hcl => ?_) (fun hcl => ?_)
      · simp at hcl
        have hkl : k < nr := by omega
        obtain ⟨hA, v1, f1, hcell, hv, _⟩ := rew_get hRa (i := (k : Int)) (by omega) (by omega)
        obtain ⟨e4, eN, eA, eC⟩ := rewr_norm (F := F) (i := k) (by omega)
        rw [e4] at hcell
        have hsm := expr_small eA
        repeat refine zz ?_
        refine o_call rfl rfl rfl (spec_AgreeOn_ok hNa hv hLa hnN (by omega)) ?_
        rintro _ wb ⟨rfl, kb⟩
        rw [agree_same (cmpX_same eN eA eC)]
        repeat refine zz ?_
        exact ⟨k + 1, ⟨rfl, rfl, rfl, rfl, rfl, trivial⟩, ⟨hka.keep kb, by omega⟩, by omega⟩
      · replace hk := hk.keep hka
        replace hC := hC.keep hka
        clear hRa hNa hLa hR hN hL
        repeat refine zz ?_
        refine o_call rfl rfl rfl (DrawAgreeOn_ok hC (by omega)) ?_
        rintro _ wb ⟨kb, va, vb, vm, A, B, M, fa, fb, fm, rfl, hA, hnA, hB, hnB, hM, hlM⟩
        replace hk := hk.keep kb
        replace hC := hC.keep kb
        repeat refine zz ?_
        refine o_call rfl rfl rfl (DrawSubtree_ok hC (by omega)) ?_
        rintro _ wc ⟨kc, vg, G, fg, q, rfl, hG, hlG, hsG⟩
        have hnG : G.length + totN G ≤ 1048576 := by have := smallE_tot hsG; omega
        replace hk := hk.keep kc
        replace hA := hA.keep kc
        replace hB := hB.keep kc
        replace hM := hM.keep kc
        repeat refine zz ?_
        refine o_call rfl rfl rfl (impl_Subtree_own hG hnG q) ?_
        rintro vs wd ⟨kd, fs, hoS⟩
        obtain ⟨fS, hS, _⟩ := hoS.sl (by decide)
        replace hk := hk.keep kd
        replace hA := hA.keep kd
        replace hB := hB.keep kd
        replace hM := hM.keep kd
        replace hG := hG.keep kd
        clear hoS
        obtain ⟨As, ns, cs, rfl, hns⟩ := hS.split
        repeat refine zz ?_
        refine o_call rfl rfl rfl (impl_AgreeOn_ok hA hB hM hnA hnB) ?_
        rintro _ we ⟨rfl, ke⟩
        replace hk := hk.keep ke
        replace hA := hA.keep ke
        replace hB := hB.keep ke
        replace hM := hM.keep ke
        replace hG := hG.keep ke
        replace hS := hS.keep ke
        repeat refine zz ?_
        refine o_call rfl rfl rfl (spec_AgreeOn_ok hA hB hM hnA hnB) ?_
        rintro _ wf ⟨rfl, kf⟩
        replace hk := hk.keep kf
        replace hG := hG.keep kf
        replace hS := hS.keep kf
        generalize agree A B M = bb
        have hfin : ∀ (bz : Bool), bz = bb → True := fun _ _ => trivial
        have key : (bb == bb) = true := by simp
        repeat refine zz ?_
        rw [key]
        repeat refine zz ?_
        refine o_call rfl rfl rfl (spec_Subtree_own hG hnG q) ?_
        rintro vt wg ⟨kg, ft, hoT⟩
        obtain ⟨fT, hT, _⟩ := hoT.sl (by decide)
        replace hk := hk.keep kg
        replace hS := hS.keep kg
        repeat refine zz ?_
        refine o_call rfl rfl rfl (spec_EqualExpressions_ok hS hT) ?_
        rintro _ wh ⟨rfl, kh⟩
        replace hk := hk.keep kh
        replace hS := hS.keep kh
        rw [decide_eq_true (rfl : subT G q = subT G q)]
        repeat refine zz ?_
        refine WL_part rfl rfl (fun hz => ?_) (fun hz => ?_)
        · repeat refine zz ?_
          exact ret1 rfl rfl ⟨by simp_all, hk⟩
        · simp at hz
          have hne : subT G q ≠ [] := fun e => by rw [e] at hns; simp at hns; omega
          have hex := sub_expr hne
          have hsm := expr_small hex
          repeat refine zz ?_
          refine o_call rfl rfl rfl (impl_IsExpression_ok hS (by omega)) ?_
          rintro _ wi ⟨rfl, ki⟩
          rw [hex]
          repeat refine zz ?_
          exact ret1 rfl rfl ⟨by simp_all, hk.keep ki⟩
    · repeat refine zz ?_
      refine o_call rfl rfl rfl (spec_NormalizeExpression_ok hF hnF) ?_
      rintro vm w8 ⟨k8, fm, hM, _⟩
      replace hF := hF.keep k8
      replace hN := hN.keep k8
      replace hL := hL.keep k8
      repeat refine zz ?_
      refine o_call rfl rfl rfl (spec_EqualExpressions_ok hN hM) ?_
      rintro _ w9 ⟨rfl, k9⟩
      rw [decide_eq_true (rfl : norm F = norm F)]
      replace hF := hF.keep k9
      replace hN := hN.keep k9
      replace hL := hL.keep k9
      replace k8 := k8.keep k9
      repeat refine zz ?_
      refine o_call rfl rfl rfl (spec_IsExpression_ok hF hnF) ?_
      rintro _ w10 ⟨rfl, k10⟩
      replace hF := hF.keep k10
      replace hN := hN.keep k10
      replace hL := hL.keep k10
      replace k8 := k8.keep k10
      cases hx : isExpr F with
      | true =>
        obtain ⟨n1, n2⟩ := (normN_ok 60 F).1 hx
        repeat refine zz ?_
        refine o_call rfl rfl rfl (impl_AgreeOn_ok hF hN hL hnF hnN) ?_
        rintro _ w11 ⟨rfl, k11⟩
        rw [agree_same (cmpX_same hx (show isExpr (norm F) = true by unfold norm; exact n1) (fun x y => by unfold norm; exact n2 x y))]
        repeat refine zz ?_
        exact ⟨⟨rfl, rfl, rfl, rfl, trivial⟩, k8.keep k11⟩
      | false =>
        repeat refine zz ?_
        exact ⟨⟨rfl, rfl, rfl, rfl, trivial⟩, k8⟩
  · cases hap : applyR E rule at_ with
    | none =>
      rw [hap] at hX hY
      repeat refine zz ?_
      refine o_call rfl rfl rfl (spec_EqualExpressions_ok hX hY) ?_
      rintro _ w5 ⟨rfl, k5⟩
      rw [decide_eq_true rfl]
      replace hE := hE.keep k5
      replace hX := hX.keep k5
      repeat refine zz ?_
      refine o_call rfl rfl rfl (spec_EqualExpressions_ok hX hE) ?_
      rintro _ w6 ⟨rfl, k6⟩
      rw [decide_eq_true (show (none : Option (List Nod)).getD E = E from rfl)]
      repeat refine zz ?_
      exact ⟨⟨rfl, rfl, rfl, trivial⟩, k5.keep k6⟩
    | some y =>
      rw [hap] at hX hY
      obtain ⟨a1, a2, a3, _⟩ := applyR_expr hap
      have hsm := apply_small hap
      repeat refine zz ?_
      refine o_call rfl rfl rfl (spec_EqualExpressions_ok hX hY) ?_
      rintro _ w5 ⟨rfl, k5⟩
      rw [decide_eq_true rfl]
      replace hE := hE.keep k5
      replace hX := hX.keep k5
      replace hL := hL.keep k5
      repeat refine zz ?_
      refine o_call rfl rfl rfl (impl_IsExpression_ok hX (by simp only [Option.getD_some]; omega)) ?_
      rintro _ w6 ⟨rfl, k6⟩
      replace hE := hE.keep k6
      replace hX := hX.keep k6
      replace hL := hL.keep k6
      rw [show (some y).getD E = y from rfl, a2]
      repeat refine zz ?_
      refine o_call rfl rfl rfl (impl_AgreeOn_ok hE hX hL hnE (by simp only [Option.getD_some]; omega)) ?_
      rintro _ w7 ⟨rfl, k7⟩
      rw [show (some y).getD E = y from rfl, agree_same (cmpX_same a1 a2 a3)]
      repeat refine zz ?_
      exact ⟨⟨rfl, rfl, rfl, trivial⟩, (k5.keep k6).keep k7⟩
end Go.E
