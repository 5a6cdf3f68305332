/-
  'FnGroups' holds for every input: it returns true, and the input reads as it did. Conditions: none.
-/
import Derived.Test.YtoemiahnilmdlaaDn
import Derived.Test.YtoemiahnilmdlaaLw
import Derived.Test.YtoemiahnilmdlaaLs
import Derived.Test.YtoemiahnilmdlaaGp
import Derived.Test.YtoemiahnilmdlaaY4
import Derived.Test.YtoemiahnilmdlaaY2
import Derived.Test.YtoemiahnilmdlaaY1
set_option linter.unusedVariables false
set_option linter.unusedSimpArgs false
namespace Go.E
open Go Go.RowKit Go.Proofs
attribute [local irreducible] W WL WD WE thenE inE retQ PureOp Keep Cell Cells Blk Sl Rows Own Src Fresh
attribute [local irreducible] poll unanAt vetoAt bordN apprN scoreN pickIf

set_option maxHeartbeats 8000000 in
theorem law_Groups {w : World} {vC : Value} {C : List Int} {pC : List Nat} (hC : Sl u8R w vC C pC) :
    Run Try.prog 11 [vC] w (fun r w' => r = .bool true ∧ Keep w w') := by
  refine Run_intro Try.func11 (by unfold CallOk; kernel_rfl) rfl Try.ntmps11 (Nat.le_of_ble_eq_true rfl) ?_
  simp only [penv, Nat.reduceAdd, Nat.zero_add]
  repeat refine zz ?_
  refine o_call rfl rfl rfl (big_ok hC) ?_
  rintro _ _ ⟨rfl, rfl⟩
  repeat refine zz ?_
  refine W_cond rfl (fun hbig => ?_) (fun hbig => ?_)
  · repeat refine zz ?_
    exact ret1 rfl rfl ⟨rfl, Keep.refl _⟩
  simp at hbig
  repeat refine zz ?_
  refine o_call rfl rfl rfl (DrawCondorcetOf_ok hC (by omega)) ?_
  rintro _ w1 ⟨hk, vl, vg, L, G, fl, fg, rfl, hL, hlL, hsL, hG, hsG⟩
  have hnG := smallG_tot hsG
  replace hC := hC.keep hk
  repeat refine zz ?_
  refine o_call rfl rfl rfl (impl_CondorcetOf_ok hL hG hnG) ?_
  rintro _ w2 ⟨rfl, k2⟩
  replace hL := hL.keep k2
  replace hG := hG.keep k2
  replace hk := hk.keep k2
  replace hC := hC.keep k2
  repeat refine zz ?_
  refine o_call rfl rfl rfl (impl_UnanimousBest_ok hL hG hnG) ?_
  rintro vu w3 ⟨k3, fu, hU, _⟩
  replace hL := hL.keep k3
  replace hG := hG.keep k3
  replace hk := hk.keep k3
  replace hC := hC.keep k3
  repeat refine zz ?_
  refine o_call rfl rfl rfl (impl_BordaScores_ok hL hG hnG) ?_
  rintro vb w4 ⟨k4, fb, hbB, _⟩
  replace hL := hL.keep k4
  replace hG := hG.keep k4
  replace hk := hk.keep k4
  replace hC := hC.keep k4
  replace hU := hU.keep k4
  repeat refine zz ?_
  refine o_call rfl rfl rfl (spec_CondorcetOf_ok hL hG hnG) ?_
  rintro _ w5 ⟨rfl, k5⟩
  replace hL := hL.keep k5
  replace hG := hG.keep k5
  replace hk := hk.keep k5
  replace hC := hC.keep k5
  replace hU := hU.keep k5
  replace hbB := hbB.keep k5
  repeat refine zz ?_
  try (refine WL_part rfl rfl (fun hc => by exfalso; first | (simp at hc; done) | (simp at hc; omega) | omega) (fun _ => ?_))
  repeat refine zz ?_
  refine o_call rfl rfl rfl (spec_UnanimousBest_ok hL hG hnG) ?_
  rintro vu2 w6 ⟨k6, fu2, hU2, _⟩
  replace hL := hL.keep k6
  replace hG := hG.keep k6
  replace hk := hk.keep k6
  replace hC := hC.keep k6
  replace hU := hU.keep k6
  replace hbB := hbB.keep k6
  repeat refine zz ?_
  refine o_call rfl rfl rfl (sameInts_same hU hU2) ?_
  rintro _ w7 ⟨rfl, k7⟩
  replace hL := hL.keep k7
  replace hG := hG.keep k7
  replace hk := hk.keep k7
  replace hC := hC.keep k7
  replace hU := hU.keep k7
  replace hbB := hbB.keep k7
  repeat refine zz ?_
  refine o_call rfl rfl rfl (spec_BordaScores_ok hL hG hnG) ?_
  rintro vb2 w8 ⟨k8, fb2, hb2, _⟩
  replace hL := hL.keep k8
  replace hG := hG.keep k8
  replace hk := hk.keep k8
  replace hC := hC.keep k8
  replace hU := hU.keep k8
  replace hbB := hbB.keep k8
  repeat refine zz ?_
  refine o_call rfl rfl rfl (sameInts_same hbB hb2) ?_
  rintro _ w9 ⟨rfl, k9⟩
  replace hL := hL.keep k9
  replace hG := hG.keep k9
  replace hk := hk.keep k9
  replace hC := hC.keep k9
  replace hU := hU.keep k9
  replace hbB := hbB.keep k9
  repeat refine zz ?_
  refine o_call rfl rfl rfl (impl_AreVoters_ok hG hnG) ?_
  rintro _ w10 ⟨rfl, k10⟩
  replace hL := hL.keep k10
  replace hG := hG.keep k10
  replace hk := hk.keep k10
  replace hC := hC.keep k10
  replace hU := hU.keep k10
  replace hbB := hbB.keep k10
  repeat refine zz ?_
  refine o_call rfl rfl rfl (spec_AreVoters_ok hG hnG) ?_
  rintro _ wZ ⟨rfl, k11⟩
  replace hL := hL.keep k11
  replace hG := hG.keep k11
  replace hk := hk.keep k11
  replace hC := hC.keep k11
  replace hU := hU.keep k11
  replace hbB := hbB.keep k11
  generalize hBB : scoreIf (poll L G) L (fun i => bordN L G i G.length) = B at hbB
  obtain ⟨Ab, nb, cb, rfl, hnb⟩ := hbB.split
  have hB16 : B.length ≤ 16 := by rw [← hBB]; exact scoreIf_len (fun h => (poll_ok h).2.1)
  have hBat : ∀ i : Nat, i < B.length → -96 ≤ gi B (i : Int) ∧ gi B (i : Int) ≤ 96 := fun i hi => by
    cases hp : poll L G with
    | true =>
      have e : B = scoreN (fun i => bordN L G i G.length) L.length := by rw [← hBB, scoreIf, if_pos hp]
      have := bordN_bd L G i G.length
      have := hsG.1
      rw [e, score_at _ _ _ (by rw [e, scoreN_len] at hi; exact hi)]; omega
    | false => rw [← hBB, scoreIf, if_neg (by rw [hp]; decide)] at hi; simp at hi
  have hsum : ∀ k : Nat, k ≤ nb → -96 * (k : Int) ≤ sumN (fun i => gi B (i : Int)) k ∧ sumN (fun i => gi B (i : Int)) k ≤ 96 * (k : Int) := by
    intro k
    induction k with
    | zero => intro _; simp [sumN]
    | succ k ih =>
      intro hk
      have := ih (by omega)
      have := hBat k (by omega)
      rw [sumN_succ]; omega
  have hsum0 : sumN (fun i => gi B (i : Int)) nb = 0 := by
    cases hp : poll L G with
    | true =>
      have e : B = scoreN (fun i => bordN L G i G.length) L.length := by rw [← hBB, scoreIf, if_pos hp]
      rw [hnb, e, scoreN_len, ← borda_zero hp G.length (Nat.le_refl _)]
      exact sumN_congr fun i hi => score_at _ _ _ hi
    | false =>
      have e : nb = 0 := by rw [hnb, ← hBB, scoreIf, if_neg (by rw [hp]; decide)]; rfl
      rw [e]; rfl
  repeat refine zz ?_
  try (refine W_cond rfl (fun hc => by exfalso; first | (simp at hc; done) | (simp at hc; omega) | omega) (fun _ => ?_))
  repeat refine zz ?_
  refine W_cond rfl (fun hc => ?_) (fun hc => ?_)
  · simp only [decide_eq_true_eq] at hc
    obtain ⟨hp, i0, hi0, hcd, hid⟩ := cond_of hc
    have hhas : hasI (pickIf (poll L G) L (unanAt L G)) (condorcet L G) = true := by rw [← hid]; exact unan_has hp hi0 (cond_unan hp hi0 hcd)
    repeat refine zz ?_
    refine o_call rfl rfl rfl (has_ok hU) ?_
    rintro _ _ ⟨rfl, rfl⟩
    rw [hhas]
    repeat refine zz ?_
    refine o_call rfl rfl rfl (impl_GroupChoice_ok hL hG 0 hnG) ?_
    rintro _ wZ2 ⟨rfl, k12⟩
    rw [group_cond hc]
    replace hL := hL.keep k12
    replace hG := hG.keep k12
    replace hk := hk.keep k12
    replace hC := hC.keep k12
    replace hU := hU.keep k12
    replace hbB := hbB.keep k12
    repeat refine zz ?_
    try (refine W_cond rfl (fun hc => by exfalso; first | (simp at hc; done) | (simp at hc; omega) | omega) (fun _ => ?_))
    repeat refine zz ?_
    obtain ⟨Al, nl, cl, rfl, hnl⟩ := hL.split
    have hl16 := (poll_ok hp).2.1
    refine W_loop (S := Nat) (fun k => [(0, vC), (3, .slice Al nl cl), (4, vg), (5, .int .i64 (condorcet L G)), (6, vu), (7, .slice Ab nb cb), (8, .int .i64 (k : Int))]) (fun k w' => Keep wZ2 w' ∧ k ≤ nl) (fun k => nl - k) 0 ⟨rfl, rfl, rfl, rfl, rfl, rfl, rfl, trivial⟩ ⟨Keep.refl _, Nat.zero_le _⟩ ?_
    rintro k wa ⟨hka, hkn⟩
    have hLa := hL.keep hka
    have hGa := hG.keep hka
    repeat refine zz ?_
    refine W_cond rfl (fun hcl => ?_) (fun hcl => ?_)
    · have hkl : k < nl := by simp at hcl; omega
      obtain ⟨hA, u1, f1, hcell1, _, _⟩ := item_get hLa (i := (k : Int)) (by omega) (by omega)
      repeat refine zz ?_
      refine W_quiet (Keep wa) (by kernel_rfl) (by kernel_rfl) (Keep.drew _) ?_
      repeat refine qq ?_
      refine WQ_part rfl rfl (fun hne => ?_) (fun hne => ?_)
      · simp only [ne_eq, decide_not, Bool.not_eq_true', decide_eq_false_iff_not] at hne
        have hb := cond_beats hc (k := k) (by omega) hne
        repeat refine qq ?_
        refine WQ_call rfl rfl rfl (fun w' hw' => (impl_VotesFor_ok (hLa.keep hw') (hGa.keep hw') (condorcet L G) (gi L (k : Int)).id hnG).kk hw') ?_
        repeat refine qq ?_
        refine WQ_call rfl rfl rfl (fun w' hw' => (impl_VotesFor_ok (hLa.keep hw') (hGa.keep hw') (gi L (k : Int)).id (condorcet L G) hnG).kk hw') ?_
        repeat refine qq ?_
        intro wd hkd 
        repeat refine zz ?_
        try (refine W_cond rfl (fun hc => by exfalso; first | (simp at hc; done) | (simp at hc; omega) | omega) (fun _ => ?_))
        repeat refine zz ?_
        exact ⟨k + 1, ⟨rfl, rfl, rfl, rfl, rfl, rfl, rfl, trivial⟩, ⟨hka.keep hkd, by omega⟩, by omega⟩
      · repeat refine qq ?_
        intro wd hkd 
        repeat refine zz ?_
        exact ⟨k + 1, ⟨rfl, rfl, rfl, rfl, rfl, rfl, rfl, trivial⟩, ⟨hka.keep hkd, by omega⟩, by omega⟩
    simp at hcl
    obtain rfl : nl = k := by omega
    replace hL := hL.keep hka
    replace hG := hG.keep hka
    replace hk := hk.keep hka
    replace hC := hC.keep hka
    replace hU := hU.keep hka
    replace hbB := hbB.keep hka
    clear k12 hLa hGa
    generalize hvl : Value.slice Al nl cl = vl at hL ⊢
    repeat refine zz ?_
    refine W_loop (S := Nat) (fun k => [(0, vC), (3, vl), (4, vg), (6, vu), (7, .slice Ab nb cb), (9, .int .i64 (sumN (fun i => gi B (i : Int)) k)), (10, .int .i64 (k : Int))]) (fun k w' => w' = wa ∧ k ≤ nb) (fun k => nb - k) 0 ⟨rfl, rfl, rfl, rfl, rfl, rfl, rfl, trivial⟩ ⟨rfl, Nat.zero_le _⟩ ?_
    rintro k _ ⟨rfl, hkn⟩
    repeat refine zz ?_
    refine W_cond rfl (fun hcs => ?_) (fun hcs => ?_)
    · have hkl : k < nb := by simp at hcs; omega
      obtain ⟨hA, hcb⟩ := hbB.getI (i := (k : Int)) (by omega) (by omega)
      have hsb := hsum k (by omega)
      have hsb2 := hsum (k + 1) (by omega)
      rw [sumN_succ] at hsb2
      repeat refine zz ?_
      exact ⟨k + 1, ⟨rfl, rfl, rfl, rfl, rfl, rfl, rfl, trivial⟩, ⟨rfl, by omega⟩, by omega⟩
    simp at hcs
    obtain rfl : nb = k := by omega
    rw [hsum0]
    repeat refine zz ?_
    refine o_call rfl rfl rfl (impl_ApprovalScores_ok hL hG hnG) ?_
    rintro va wA ⟨kA, fa, ha, _⟩
    replace hL := hL.keep kA
    replace hG := hG.keep kA
    replace hU := hU.keep kA
    replace hk := hk.keep kA
    replace hC := hC.keep kA
    generalize hAP : scoreIf (poll L G) L (fun i => apprN L G i G.length) = AP at ha
    obtain ⟨Aa, na, ca, rfl, hna⟩ := ha.split
    have hap16 : AP.length ≤ 16 := by rw [← hAP]; exact scoreIf_len (fun h => (poll_ok h).2.1)
    repeat refine zz ?_
    refine W_loop (S := Nat) (fun k => [(0, vC), (3, vl), (4, vg), (6, vu), (9, .int .i64 0), (11, .slice Aa na ca), (12, .int .i64 (k : Int))]) (fun k w' => w' = wA ∧ k ≤ na) (fun k => na - k) 0 ⟨rfl, rfl, rfl, rfl, rfl, rfl, rfl, trivial⟩ ⟨rfl, Nat.zero_le _⟩ ?_
    rintro k _ ⟨rfl, hkn⟩
    repeat refine zz ?_
    refine W_cond rfl (fun hca => ?_) (fun hca => ?_)
    · have hkl : k < na := by simp at hca; omega
      have hp : poll L G = true := by
        cases hp : poll L G with
        | true => rfl
        | false => rw [← hAP, scoreIf, if_neg (by rw [hp]; decide)] at hna; simp at hna; omega
      have hlen : AP.length = L.length := by rw [← hAP, scoreIf, if_pos hp, scoreN_len]
      have hat : gi AP (k : Int) = apprN L G k G.length := by rw [← hAP, scoreIf, if_pos hp]; exact score_at _ _ _ (by omega)
      obtain ⟨hA, hcb⟩ := ha.getI (i := (k : Int)) (by omega) (by omega)
      obtain ⟨Al, nl, cl, rfl, hnl⟩ := hL.split
      obtain ⟨Ag, ng, cg, rfl, hng⟩ := hG.split
      obtain ⟨hAl, ul, fl2, hcl, _, _⟩ := item_get hL (i := (k : Int)) (by omega) (by omega)
      repeat refine zz ?_
      refine WL_part rfl rfl (fun heq => ?_) (fun heq => ?_)
      · simp only [decide_eq_true_eq] at heq
        have hhas := unan_has hp (i := k) (by omega) (appr_unan hp (by omega) (by rw [← hat, heq, hng]))
        repeat refine zz ?_
        refine o_call rfl rfl rfl (has_ok hU) ?_
        rintro _ _ ⟨rfl, rfl⟩
        rw [hhas]
        repeat refine zz ?_
        exact ⟨k + 1, ⟨rfl, rfl, rfl, rfl, rfl, rfl, rfl, trivial⟩, ⟨rfl, by omega⟩, by omega⟩
      · repeat refine zz ?_
        exact ⟨k + 1, ⟨rfl, rfl, rfl, rfl, rfl, rfl, rfl, trivial⟩, ⟨rfl, by omega⟩, by omega⟩
    simp at hca
    obtain rfl : na = k := by omega
    repeat refine zz ?_
    refine o_call rfl rfl rfl (DrawVetoFree_ok hC (by omega)) ?_
    rintro _ wB ⟨kB, vx, vv, X, V, fx, fv, lim, rfl, hX, hlX, hsX, hV, hsV, hl0, hl1⟩
    have hnV := smallG_tot hsV
    replace hL := hL.keep kB
    replace hG := hG.keep kB
    replace hk := hk.keep kB
    replace hC := hC.keep kB
    replace ha := ha.keep kB
    repeat refine zz ?_
    refine o_call rfl rfl rfl (DrawGroupChoice_ok hC (by omega)) ?_
    rintro _ wD ⟨kD, vy, vw, Y, W', fy, fw, rl, rfl, hY, hlY, hsY, hW, hsW, _, _⟩
    have hnW := smallG_tot hsW
    replace hL := hL.keep kD
    replace hG := hG.keep kD
    replace hk := hk.keep kD
    replace hC := hC.keep kD
    replace ha := ha.keep kD
    replace hX := hX.keep kD
    replace hV := hV.keep kD
    repeat refine zz ?_
    refine o_call rfl rfl rfl (DrawVotesFor_ok hC (by omega)) ?_
    rintro _ wF ⟨kF, vp, vo, PP, O, fp, fo, i1, k1, rfl, hP, hlP, hsP, hO, hsO⟩
    have hnO := smallG_tot hsO
    replace hL := hL.keep kF
    replace hG := hG.keep kF
    replace hk := hk.keep kF
    replace ha := ha.keep kF
    replace hX := hX.keep kF
    replace hV := hV.keep kF
    replace hY := hY.keep kF
    replace hW := hW.keep kF
    repeat refine zz ?_
    refine o_call rfl rfl rfl (spec_ApprovalScores_ok hL hG hnG) ?_
    rintro va2 w31 ⟨k31, fa2, ha2, _⟩
    rw [hAP] at ha2
    replace hk := hk.keep k31
    replace ha := ha.keep k31
    replace hX := hX.keep k31
    replace hV := hV.keep k31
    replace hY := hY.keep k31
    replace hW := hW.keep k31
    replace hP := hP.keep k31
    replace hO := hO.keep k31
    repeat refine zz ?_
    refine o_call rfl rfl rfl (sameInts_same ha ha2) ?_
    rintro _ w32 ⟨rfl, k32⟩
    replace hk := hk.keep k32
    replace hX := hX.keep k32
    replace hV := hV.keep k32
    replace hY := hY.keep k32
    replace hW := hW.keep k32
    replace hP := hP.keep k32
    replace hO := hO.keep k32
    repeat refine zz ?_
    refine o_call rfl rfl rfl (impl_VetoFree_ok hX hV lim hnV) ?_
    rintro vz w33 ⟨k33, fz, hz, _⟩
    replace hk := hk.keep k33
    replace hX := hX.keep k33
    replace hV := hV.keep k33
    replace hY := hY.keep k33
    replace hW := hW.keep k33
    replace hP := hP.keep k33
    replace hO := hO.keep k33
    repeat refine zz ?_
    refine o_call rfl rfl rfl (spec_VetoFree_ok hX hV lim hnV) ?_
    rintro vz2 w34 ⟨k34, fz2, hz2, _⟩
    replace hk := hk.keep k34
    replace hX := hX.keep k34
    replace hV := hV.keep k34
    replace hY := hY.keep k34
    replace hW := hW.keep k34
    replace hP := hP.keep k34
    replace hO := hO.keep k34
    replace hz := hz.keep k34
    repeat refine zz ?_
    refine o_call rfl rfl rfl (sameInts_same hz hz2) ?_
    rintro _ w35 ⟨rfl, k35⟩
    replace hk := hk.keep k35
    replace hX := hX.keep k35
    replace hV := hV.keep k35
    replace hY := hY.keep k35
    replace hW := hW.keep k35
    replace hP := hP.keep k35
    replace hO := hO.keep k35
    repeat refine zz ?_
    refine o_call rfl rfl rfl (spec_VetoFree_ok hX hV lim hnV) ?_
    rintro vz3 w36 ⟨k36, fz3, hz3, _⟩
    replace hk := hk.keep k36
    replace hX := hX.keep k36
    replace hV := hV.keep k36
    replace hY := hY.keep k36
    replace hW := hW.keep k36
    replace hP := hP.keep k36
    replace hO := hO.keep k36
    repeat refine zz ?_
    refine o_call rfl rfl rfl (impl_VetoFree_ok hX hV (lim + 1) hnV) ?_
    rintro vz4 w37 ⟨k37, fz4, hz4, _⟩
    replace hk := hk.keep k37
    replace hY := hY.keep k37
    replace hW := hW.keep k37
    replace hP := hP.keep k37
    replace hO := hO.keep k37
    replace hz3 := hz3.keep k37
    repeat refine zz ?_
    refine o_call rfl rfl rfl (subset_ok hz3 hz4) ?_
    rintro _ _ ⟨rfl, rfl⟩
    rw [veto_sub]
    repeat refine zz ?_
    refine o_call rfl rfl rfl (impl_GroupChoice_ok hY hW rl hnW) ?_
    rintro _ w38 ⟨rfl, k38⟩
    replace hk := hk.keep k38
    replace hY := hY.keep k38
    replace hW := hW.keep k38
    replace hP := hP.keep k38
    replace hO := hO.keep k38
    repeat refine zz ?_
    refine o_call rfl rfl rfl (spec_GroupChoice_ok hY hW rl hnW) ?_
    rintro _ w39 ⟨rfl, k39⟩
    replace hk := hk.keep k39
    replace hP := hP.keep k39
    replace hO := hO.keep k39
    repeat refine zz ?_
    refine WL_part rfl rfl (fun _ => ?_) (fun hx => by exfalso; simp at hx)
    repeat refine zz ?_
    refine o_call rfl rfl rfl (impl_VotesFor_ok hP hO i1 k1 hnO) ?_
    rintro _ w40 ⟨rfl, k40⟩
    replace hk := hk.keep k40
    replace hP := hP.keep k40
    replace hO := hO.keep k40
    repeat refine zz ?_
    refine o_call rfl rfl rfl (spec_VotesFor_ok hP hO i1 k1 hnO) ?_
    rintro _ w41 ⟨rfl, k41⟩
    repeat refine zz ?_
    exact ret1 rfl rfl ⟨by simp, hk.keep k41⟩
  · repeat refine zz ?_
    refine W_loop (S := Nat) (fun k => [(0, vC), (3, vl), (4, vg), (6, vu), (7, .slice Ab nb cb), (9, .int .i64 (sumN (fun i => gi B (i : Int)) k)), (10, .int .i64 (k : Int))]) (fun k w' => w' = wZ ∧ k ≤ nb) (fun k => nb - k) 0 ⟨rfl, rfl, rfl, rfl, rfl, rfl, rfl, trivial⟩ ⟨rfl, Nat.zero_le _⟩ ?_
    rintro k _ ⟨rfl, hkn⟩
    repeat refine zz ?_
    refine W_cond rfl (fun hcs => ?_) (fun hcs => ?_)
    · have hkl : k < nb := by simp at hcs; omega
      obtain ⟨hA, hcb⟩ := hbB.getI (i := (k : Int)) (by omega) (by omega)
      have hsb := hsum k (by omega)
      have hsb2 := hsum (k + 1) (by omega)
      rw [sumN_succ] at hsb2
      repeat refine zz ?_
      exact ⟨k + 1, ⟨rfl, rfl, rfl, rfl, rfl, rfl, rfl, trivial⟩, ⟨rfl, by omega⟩, by omega⟩
    simp at hcs
    obtain rfl : nb = k := by omega
    rw [hsum0]
    repeat refine zz ?_
    refine o_call rfl rfl rfl (impl_ApprovalScores_ok hL hG hnG) ?_
    rintro va wA ⟨kA, fa, ha, _⟩
    replace hL := hL.keep kA
    replace hG := hG.keep kA
    replace hU := hU.keep kA
    replace hk := hk.keep kA
    replace hC := hC.keep kA
    generalize hAP : scoreIf (poll L G) L (fun i => apprN L G i G.length) = AP at ha
    obtain ⟨Aa, na, ca, rfl, hna⟩ := ha.split
    have hap16 : AP.length ≤ 16 := by rw [← hAP]; exact scoreIf_len (fun h => (poll_ok h).2.1)
    repeat refine zz ?_
    refine W_loop (S := Nat) (fun k => [(0, vC), (3, vl), (4, vg), (6, vu), (9, .int .i64 0), (11, .slice Aa na ca), (12, .int .i64 (k : Int))]) (fun k w' => w' = wA ∧ k ≤ na) (fun k => na - k) 0 ⟨rfl, rfl, rfl, rfl, rfl, rfl, rfl, trivial⟩ ⟨rfl, Nat.zero_le _⟩ ?_
    rintro k _ ⟨rfl, hkn⟩
    repeat refine zz ?_
    refine W_cond rfl (fun hca => ?_) (fun hca => ?_)
    · have hkl : k < na := by simp at hca; omega
      have hp : poll L G = true := by
        cases hp : poll L G with
        | true => rfl
        | false => rw [← hAP, scoreIf, if_neg (by rw [hp]; decide)] at hna; simp at hna; omega
      have hlen : AP.length = L.length := by rw [← hAP, scoreIf, if_pos hp, scoreN_len]
      have hat : gi AP (k : Int) = apprN L G k G.length := by rw [← hAP, scoreIf, if_pos hp]; exact score_at _ _ _ (by omega)
      obtain ⟨hA, hcb⟩ := ha.getI (i := (k : Int)) (by omega) (by omega)
      obtain ⟨Al, nl, cl, rfl, hnl⟩ := hL.split
      obtain ⟨Ag, ng, cg, rfl, hng⟩ := hG.split
      obtain ⟨hAl, ul, fl2, hcl, _, _⟩ := item_get hL (i := (k : Int)) (by omega) (by omega)
      repeat refine zz ?_
      refine WL_part rfl rfl (fun heq => ?_) (fun heq => ?_)
      · simp only [decide_eq_true_eq] at heq
        have hhas := unan_has hp (i := k) (by omega) (appr_unan hp (by omega) (by rw [← hat, heq, hng]))
        repeat refine zz ?_
        refine o_call rfl rfl rfl (has_ok hU) ?_
        rintro _ _ ⟨rfl, rfl⟩
        rw [hhas]
        repeat refine zz ?_
        exact ⟨k + 1, ⟨rfl, rfl, rfl, rfl, rfl, rfl, rfl, trivial⟩, ⟨rfl, by omega⟩, by omega⟩
      · repeat refine zz ?_
        exact ⟨k + 1, ⟨rfl, rfl, rfl, rfl, rfl, rfl, rfl, trivial⟩, ⟨rfl, by omega⟩, by omega⟩
    simp at hca
    obtain rfl : na = k := by omega
    repeat refine zz ?_
    refine o_call rfl rfl rfl (DrawVetoFree_ok hC (by omega)) ?_
    rintro _ wB ⟨kB, vx, vv, X, V, fx, fv, lim, rfl, hX, hlX, hsX, hV, hsV, hl0, hl1⟩
    have hnV := smallG_tot hsV
    replace hL := hL.keep kB
    replace hG := hG.keep kB
    replace hk := hk.keep kB
    replace hC := hC.keep kB
    replace ha := ha.keep kB
    repeat refine zz ?_
    refine o_call rfl rfl rfl (DrawGroupChoice_ok hC (by omega)) ?_
    rintro _ wD ⟨kD, vy, vw, Y, W', fy, fw, rl, rfl, hY, hlY, hsY, hW, hsW, _, _⟩
    have hnW := smallG_tot hsW
    replace hL := hL.keep kD
    replace hG := hG.keep kD
    replace hk := hk.keep kD
    replace hC := hC.keep kD
    replace ha := ha.keep kD
    replace hX := hX.keep kD
    replace hV := hV.keep kD
    repeat refine zz ?_
    refine o_call rfl rfl rfl (DrawVotesFor_ok hC (by omega)) ?_
    rintro _ wF ⟨kF, vp, vo, PP, O, fp, fo, i1, k1, rfl, hP, hlP, hsP, hO, hsO⟩
    have hnO := smallG_tot hsO
    replace hL := hL.keep kF
    replace hG := hG.keep kF
    replace hk := hk.keep kF
    replace ha := ha.keep kF
    replace hX := hX.keep kF
    replace hV := hV.keep kF
    replace hY := hY.keep kF
    replace hW := hW.keep kF
    repeat refine zz ?_
    refine o_call rfl rfl rfl (spec_ApprovalScores_ok hL hG hnG) ?_
    rintro va2 w31 ⟨k31, fa2, ha2, _⟩
    rw [hAP] at ha2
    replace hk := hk.keep k31
    replace ha := ha.keep k31
    replace hX := hX.keep k31
    replace hV := hV.keep k31
    replace hY := hY.keep k31
    replace hW := hW.keep k31
    replace hP := hP.keep k31
    replace hO := hO.keep k31
    repeat refine zz ?_
    refine o_call rfl rfl rfl (sameInts_same ha ha2) ?_
    rintro _ w32 ⟨rfl, k32⟩
    replace hk := hk.keep k32
    replace hX := hX.keep k32
    replace hV := hV.keep k32
    replace hY := hY.keep k32
    replace hW := hW.keep k32
    replace hP := hP.keep k32
    replace hO := hO.keep k32
    repeat refine zz ?_
    refine o_call rfl rfl rfl (impl_VetoFree_ok hX hV lim hnV) ?_
    rintro vz w33 ⟨k33, fz, hz, _⟩
    replace hk := hk.keep k33
    replace hX := hX.keep k33
    replace hV := hV.keep k33
    replace hY := hY.keep k33
    replace hW := hW.keep k33
    replace hP := hP.keep k33
    replace hO := hO.keep k33
    repeat refine zz ?_
    refine o_call rfl rfl rfl (spec_VetoFree_ok hX hV lim hnV) ?_
    rintro vz2 w34 ⟨k34, fz2, hz2, _⟩
    replace hk := hk.keep k34
    replace hX := hX.keep k34
    replace hV := hV.keep k34
    replace hY := hY.keep k34
    replace hW := hW.keep k34
    replace hP := hP.keep k34
    replace hO := hO.keep k34
    replace hz := hz.keep k34
    repeat refine zz ?_
    refine o_call rfl rfl rfl (sameInts_same hz hz2) ?_
    rintro _ w35 ⟨rfl, k35⟩
    replace hk := hk.keep k35
    replace hX := hX.keep k35
    replace hV := hV.keep k35
    replace hY := hY.keep k35
    replace hW := hW.keep k35
    replace hP := hP.keep k35
    replace hO := hO.keep k35
    repeat refine zz ?_
    refine o_call rfl rfl rfl (spec_VetoFree_ok hX hV lim hnV) ?_
    rintro vz3 w36 ⟨k36, fz3, hz3, _⟩
    replace hk := hk.keep k36
    replace hX := hX.keep k36
    replace hV := hV.keep k36
    replace hY := hY.keep k36
    replace hW := hW.keep k36
    replace hP := hP.keep k36
    replace hO := hO.keep k36
    repeat refine zz ?_
    refine o_call rfl rfl rfl (impl_VetoFree_ok hX hV (lim + 1) hnV) ?_
    rintro vz4 w37 ⟨k37, fz4, hz4, _⟩
    replace hk := hk.keep k37
    replace hY := hY.keep k37
    replace hW := hW.keep k37
    replace hP := hP.keep k37
    replace hO := hO.keep k37
    replace hz3 := hz3.keep k37
    repeat refine zz ?_
    refine o_call rfl rfl rfl (subset_ok hz3 hz4) ?_
    rintro _ _ ⟨rfl, rfl⟩
    rw [veto_sub]
    repeat refine zz ?_
    refine o_call rfl rfl rfl (impl_GroupChoice_ok hY hW rl hnW) ?_
    rintro _ w38 ⟨rfl, k38⟩
    replace hk := hk.keep k38
    replace hY := hY.keep k38
    replace hW := hW.keep k38
    replace hP := hP.keep k38
    replace hO := hO.keep k38
    repeat refine zz ?_
    refine o_call rfl rfl rfl (spec_GroupChoice_ok hY hW rl hnW) ?_
    rintro _ w39 ⟨rfl, k39⟩
    replace hk := hk.keep k39
    replace hP := hP.keep k39
    replace hO := hO.keep k39
    repeat refine zz ?_
    refine WL_part rfl rfl (fun _ => ?_) (fun hx => by exfalso; simp at hx)
    repeat refine zz ?_
    refine o_call rfl rfl rfl (impl_VotesFor_ok hP hO i1 k1 hnO) ?_
    rintro _ w40 ⟨rfl, k40⟩
    replace hk := hk.keep k40
    replace hP := hP.keep k40
    replace hO := hO.keep k40
    repeat refine zz ?_
    refine o_call rfl rfl rfl (spec_VotesFor_ok hP hO i1 k1 hnO) ?_
    rintro _ w41 ⟨rfl, k41⟩
    repeat refine zz ?_
    exact ret1 rfl rfl ⟨by simp, hk.keep k41⟩
end Go.E
