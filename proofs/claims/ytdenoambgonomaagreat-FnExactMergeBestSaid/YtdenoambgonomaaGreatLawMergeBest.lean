/-
  'FnExactMergeBest' holds for every input: it returns true, and the inputs read as they did. Conditions: none.
-/
import Derived.Test.YtdenoambgonomaaGreatM5
import Derived.Test.YtdenoambgonomaaGreatLi
import Derived.Test.YtdenoambgonomaaGreatNc
set_option linter.unusedVariables false
set_option linter.unusedSimpArgs false
namespace Go.E
open Go Go.RowKit Go.Proofs
attribute [local irreducible] W WL WD WE thenE inE retQ PureOp Keep Cell Cells Blk Sl Rows Own Src Fresh

set_option maxHeartbeats 2000000 in
theorem law_MergeBest {w : World} {vL : Value} {L : List Itm} {pL : List Nat} (hL : Sl itemR w vL L pL) {vE : Value} {E : List Nod} {pE : List Nat} (hE : Sl nodeR w vE E pE) {vA : Value} {A : List Int} {pA : List Nat} (hA : Sl intR w vA A pA) {vB : Value} {B : List Int} {pB : List Nat} (hB : Sl intR w vB B pB) :
    Run Tryz.prog 4 [vL, vE, vA, vB] w (fun r w' => r = .bool true ∧ Keep w w') := by
  have upL := hL.dom
  have upE := hE.dom
  obtain ⟨AA, nA, cA, rfl, hnA⟩ := hA.split
  have upA := hA.dom
  obtain ⟨AB, nB, cB, rfl, hnB⟩ := hB.split
  have upB := hB.dom
  have hk := Keep.refl w
  refine Run_intro Tryz.func4 (by unfold CallOk; kernel_rfl) rfl Tryz.ntmps4 (Nat.le_of_ble_eq_true rfl) ?_
  simp only [penv, Nat.reduceAdd, Nat.zero_add]
  repeat (first|refine z_1 ?_|refine z_2 ?_|refine s_o ?_|refine z_3 ?_|refine z_4 ?_|refine z_5 ?_|refine z_6 ?_|refine z_7 ?_|refine z_8 ?_|refine z_9 ?_|refine z_a ?_|refine z_b ?_|refine z_d ?_|refine z_e ?_|refine z_f ?_|refine z_g ?_|refine z_h ?_|refine z_i ?_|refine z_j ?_|refine s_a ?_|refine s_s ?_|refine s_n ?_|refine s_i ?_|refine s_f ?_|refine s_b ?_|refine s_d ?_|refine s_l1 ?_|refine s_l2 ?_|refine s_l3 ?_|refine s_l4 ?_|refine s_l5 ?_|refine s_l6 ?_|refine s_l7 ?_|refine s_l8 ?_|refine s_l9 ?_|refine s_g ?_|refine s_q ?_|refine s_e ?_|refine s_j ?_)
  refine W_cond rfl (fun hcA => ?_) (fun hcA => ?_)
  · repeat (first|refine z_1 ?_|refine z_2 ?_|refine s_o ?_|refine z_3 ?_|refine z_4 ?_|refine z_5 ?_|refine z_6 ?_|refine z_7 ?_|refine z_8 ?_|refine z_9 ?_|refine z_a ?_|refine z_b ?_|refine z_d ?_|refine z_e ?_|refine z_f ?_|refine z_g ?_|refine z_h ?_|refine z_i ?_|refine z_j ?_|refine s_a ?_|refine s_s ?_|refine s_n ?_|refine s_i ?_|refine s_f ?_|refine s_b ?_|refine s_d ?_|refine s_l1 ?_|refine s_l2 ?_|refine s_l3 ?_|refine s_l4 ?_|refine s_l5 ?_|refine s_l6 ?_|refine s_l7 ?_|refine s_l8 ?_|refine s_l9 ?_|refine s_g ?_|refine s_q ?_|refine s_e ?_|refine s_j ?_)
    exact ret1 rfl rfl ⟨rfl, hk⟩
  simp at hcA
  have hbA : A.length ≤ 1048576 := by omega
  repeat (first|refine z_1 ?_|refine z_2 ?_|refine s_o ?_|refine z_3 ?_|refine z_4 ?_|refine z_5 ?_|refine z_6 ?_|refine z_7 ?_|refine z_8 ?_|refine z_9 ?_|refine z_a ?_|refine z_b ?_|refine z_d ?_|refine z_e ?_|refine z_f ?_|refine z_g ?_|refine z_h ?_|refine z_i ?_|refine z_j ?_|refine s_a ?_|refine s_s ?_|refine s_n ?_|refine s_i ?_|refine s_f ?_|refine s_b ?_|refine s_d ?_|refine s_l1 ?_|refine s_l2 ?_|refine s_l3 ?_|refine s_l4 ?_|refine s_l5 ?_|refine s_l6 ?_|refine s_l7 ?_|refine s_l8 ?_|refine s_l9 ?_|refine s_g ?_|refine s_q ?_|refine s_e ?_|refine s_j ?_)
  refine W_cond rfl (fun hcB => ?_) (fun hcB => ?_)
  · repeat (first|refine z_1 ?_|refine z_2 ?_|refine s_o ?_|refine z_3 ?_|refine z_4 ?_|refine z_5 ?_|refine z_6 ?_|refine z_7 ?_|refine z_8 ?_|refine z_9 ?_|refine z_a ?_|refine z_b ?_|refine z_d ?_|refine z_e ?_|refine z_f ?_|refine z_g ?_|refine z_h ?_|refine z_i ?_|refine z_j ?_|refine s_a ?_|refine s_s ?_|refine s_n ?_|refine s_i ?_|refine s_f ?_|refine s_b ?_|refine s_d ?_|refine s_l1 ?_|refine s_l2 ?_|refine s_l3 ?_|refine s_l4 ?_|refine s_l5 ?_|refine s_l6 ?_|refine s_l7 ?_|refine s_l8 ?_|refine s_l9 ?_|refine s_g ?_|refine s_q ?_|refine s_e ?_|refine s_j ?_)
    exact ret1 rfl rfl ⟨rfl, hk⟩
  simp at hcB
  have hbB : B.length ≤ 1048576 := by omega
  repeat (first|refine z_1 ?_|refine z_2 ?_|refine s_o ?_|refine z_3 ?_|refine z_4 ?_|refine z_5 ?_|refine z_6 ?_|refine z_7 ?_|refine z_8 ?_|refine z_9 ?_|refine z_a ?_|refine z_b ?_|refine z_d ?_|refine z_e ?_|refine z_f ?_|refine z_g ?_|refine z_h ?_|refine z_i ?_|refine z_j ?_|refine s_a ?_|refine s_s ?_|refine s_n ?_|refine s_i ?_|refine s_f ?_|refine s_b ?_|refine s_d ?_|refine s_l1 ?_|refine s_l2 ?_|refine s_l3 ?_|refine s_l4 ?_|refine s_l5 ?_|refine s_l6 ?_|refine s_l7 ?_|refine s_l8 ?_|refine s_l9 ?_|refine s_g ?_|refine s_q ?_|refine s_e ?_|refine s_j ?_)
  refine o_call rfl rfl rfl (szItemS_ok hL (by omega) (by omega)) ?_
  rintro _ w1 ⟨rfl, kw1⟩
  have skw1 := kw1.size_le
  replace hL := hL.keep kw1
  replace hE := hE.keep kw1
  replace hA := hA.keep kw1
  replace hB := hB.keep kw1
  replace hk := hk.keep kw1
  repeat (first|refine z_1 ?_|refine z_2 ?_|refine s_o ?_|refine z_3 ?_|refine z_4 ?_|refine z_5 ?_|refine z_6 ?_|refine z_7 ?_|refine z_8 ?_|refine z_9 ?_|refine z_a ?_|refine z_b ?_|refine z_d ?_|refine z_e ?_|refine z_f ?_|refine z_g ?_|refine z_h ?_|refine z_i ?_|refine z_j ?_|refine s_a ?_|refine s_s ?_|refine s_n ?_|refine s_i ?_|refine s_f ?_|refine s_b ?_|refine s_d ?_|refine s_l1 ?_|refine s_l2 ?_|refine s_l3 ?_|refine s_l4 ?_|refine s_l5 ?_|refine s_l6 ?_|refine s_l7 ?_|refine s_l8 ?_|refine s_l9 ?_|refine s_g ?_|refine s_q ?_|refine s_e ?_|refine s_j ?_)
  refine W_cond rfl (fun hcL => ?_) (fun hcL => ?_)
  · repeat (first|refine z_1 ?_|refine z_2 ?_|refine s_o ?_|refine z_3 ?_|refine z_4 ?_|refine z_5 ?_|refine z_6 ?_|refine z_7 ?_|refine z_8 ?_|refine z_9 ?_|refine z_a ?_|refine z_b ?_|refine z_d ?_|refine z_e ?_|refine z_f ?_|refine z_g ?_|refine z_h ?_|refine z_i ?_|refine z_j ?_|refine s_a ?_|refine s_s ?_|refine s_n ?_|refine s_i ?_|refine s_f ?_|refine s_b ?_|refine s_d ?_|refine s_l1 ?_|refine s_l2 ?_|refine s_l3 ?_|refine s_l4 ?_|refine s_l5 ?_|refine s_l6 ?_|refine s_l7 ?_|refine s_l8 ?_|refine s_l9 ?_|refine s_g ?_|refine s_q ?_|refine s_e ?_|refine s_j ?_)
    exact ret1 rfl rfl ⟨rfl, hk⟩
  simp only [decide_eq_false_iff_not] at hcL
  have hlL := szN_bd hcL (by omega)
  have hbL : L.length + totI L ≤ 1048576 := by have := szN_ge hcL; omega
  repeat (first|refine z_1 ?_|refine z_2 ?_|refine s_o ?_|refine z_3 ?_|refine z_4 ?_|refine z_5 ?_|refine z_6 ?_|refine z_7 ?_|refine z_8 ?_|refine z_9 ?_|refine z_a ?_|refine z_b ?_|refine z_d ?_|refine z_e ?_|refine z_f ?_|refine z_g ?_|refine z_h ?_|refine z_i ?_|refine z_j ?_|refine s_a ?_|refine s_s ?_|refine s_n ?_|refine s_i ?_|refine s_f ?_|refine s_b ?_|refine s_d ?_|refine s_l1 ?_|refine s_l2 ?_|refine s_l3 ?_|refine s_l4 ?_|refine s_l5 ?_|refine s_l6 ?_|refine s_l7 ?_|refine s_l8 ?_|refine s_l9 ?_|refine s_g ?_|refine s_q ?_|refine s_e ?_|refine s_j ?_)
  refine o_call rfl rfl rfl (szNodeS_ok hE hlL.1 hlL.2) ?_
  rintro _ w2 ⟨rfl, kw2⟩
  have skw2 := kw2.size_le
  replace hL := hL.keep kw2
  replace hE := hE.keep kw2
  replace hA := hA.keep kw2
  replace hB := hB.keep kw2
  replace hk := hk.keep kw2
  repeat (first|refine z_1 ?_|refine z_2 ?_|refine s_o ?_|refine z_3 ?_|refine z_4 ?_|refine z_5 ?_|refine z_6 ?_|refine z_7 ?_|refine z_8 ?_|refine z_9 ?_|refine z_a ?_|refine z_b ?_|refine z_d ?_|refine z_e ?_|refine z_f ?_|refine z_g ?_|refine z_h ?_|refine z_i ?_|refine z_j ?_|refine s_a ?_|refine s_s ?_|refine s_n ?_|refine s_i ?_|refine s_f ?_|refine s_b ?_|refine s_d ?_|refine s_l1 ?_|refine s_l2 ?_|refine s_l3 ?_|refine s_l4 ?_|refine s_l5 ?_|refine s_l6 ?_|refine s_l7 ?_|refine s_l8 ?_|refine s_l9 ?_|refine s_g ?_|refine s_q ?_|refine s_e ?_|refine s_j ?_)
  refine W_cond rfl (fun hcE => ?_) (fun hcE => ?_)
  · repeat (first|refine z_1 ?_|refine z_2 ?_|refine s_o ?_|refine z_3 ?_|refine z_4 ?_|refine z_5 ?_|refine z_6 ?_|refine z_7 ?_|refine z_8 ?_|refine z_9 ?_|refine z_a ?_|refine z_b ?_|refine z_d ?_|refine z_e ?_|refine z_f ?_|refine z_g ?_|refine z_h ?_|refine z_i ?_|refine z_j ?_|refine s_a ?_|refine s_s ?_|refine s_n ?_|refine s_i ?_|refine s_f ?_|refine s_b ?_|refine s_d ?_|refine s_l1 ?_|refine s_l2 ?_|refine s_l3 ?_|refine s_l4 ?_|refine s_l5 ?_|refine s_l6 ?_|refine s_l7 ?_|refine s_l8 ?_|refine s_l9 ?_|refine s_g ?_|refine s_q ?_|refine s_e ?_|refine s_j ?_)
    exact ret1 rfl rfl ⟨rfl, hk⟩
  simp only [decide_eq_false_iff_not] at hcE
  have hlE := szN_bd hcE (by omega)
  have hbE : E.length + totN E ≤ 1048576 := by have := szN_ge hcE; omega
  repeat (first|refine z_1 ?_|refine z_2 ?_|refine s_o ?_|refine z_3 ?_|refine z_4 ?_|refine z_5 ?_|refine z_6 ?_|refine z_7 ?_|refine z_8 ?_|refine z_9 ?_|refine z_a ?_|refine z_b ?_|refine z_d ?_|refine z_e ?_|refine z_f ?_|refine z_g ?_|refine z_h ?_|refine z_i ?_|refine z_j ?_|refine s_a ?_|refine s_s ?_|refine s_n ?_|refine s_i ?_|refine s_f ?_|refine s_b ?_|refine s_d ?_|refine s_l1 ?_|refine s_l2 ?_|refine s_l3 ?_|refine s_l4 ?_|refine s_l5 ?_|refine s_l6 ?_|refine s_l7 ?_|refine s_l8 ?_|refine s_l9 ?_|refine s_g ?_|refine s_q ?_|refine s_e ?_|refine s_j ?_)
  have hqE := nCnt_le E
  refine o_call rfl rfl rfl (toItemS_ok hL hbL) ?_
  rintro vaL w3 ⟨kw3, faL, aL, gaL⟩
  have skw3 := kw3.size_le
  replace hL := hL.keep kw3
  replace hE := hE.keep kw3
  replace hA := hA.keep kw3
  replace hB := hB.keep kw3
  replace hk := hk.keep kw3
  have loaL := fun b hb => gaL.ge (b := b) hb
  have upaL := aL.dom
  repeat (first|refine z_1 ?_|refine z_2 ?_|refine s_o ?_|refine z_3 ?_|refine z_4 ?_|refine z_5 ?_|refine z_6 ?_|refine z_7 ?_|refine z_8 ?_|refine z_9 ?_|refine z_a ?_|refine z_b ?_|refine z_d ?_|refine z_e ?_|refine z_f ?_|refine z_g ?_|refine z_h ?_|refine z_i ?_|refine z_j ?_|refine s_a ?_|refine s_s ?_|refine s_n ?_|refine s_i ?_|refine s_f ?_|refine s_b ?_|refine s_d ?_|refine s_l1 ?_|refine s_l2 ?_|refine s_l3 ?_|refine s_l4 ?_|refine s_l5 ?_|refine s_l6 ?_|refine s_l7 ?_|refine s_l8 ?_|refine s_l9 ?_|refine s_g ?_|refine s_q ?_|refine s_e ?_|refine s_j ?_)
  refine o_call rfl rfl rfl (toNodeS_ok hE hbE) ?_
  rintro vaE w4 ⟨kw4, faE, aE, gaE⟩
  have skw4 := kw4.size_le
  replace hL := hL.keep kw4
  replace hE := hE.keep kw4
  replace hA := hA.keep kw4
  replace hB := hB.keep kw4
  replace hk := hk.keep kw4
  replace aL := aL.keep kw4
  have loaE := fun b hb => gaE.ge (b := b) hb
  have upaE := aE.dom
  repeat (first|refine z_1 ?_|refine z_2 ?_|refine s_o ?_|refine z_3 ?_|refine z_4 ?_|refine z_5 ?_|refine z_6 ?_|refine z_7 ?_|refine z_8 ?_|refine z_9 ?_|refine z_a ?_|refine z_b ?_|refine z_d ?_|refine z_e ?_|refine z_f ?_|refine z_g ?_|refine z_h ?_|refine z_i ?_|refine z_j ?_|refine s_a ?_|refine s_s ?_|refine s_n ?_|refine s_i ?_|refine s_f ?_|refine s_b ?_|refine s_d ?_|refine s_l1 ?_|refine s_l2 ?_|refine s_l3 ?_|refine s_l4 ?_|refine s_l5 ?_|refine s_l6 ?_|refine s_l7 ?_|refine s_l8 ?_|refine s_l9 ?_|refine s_g ?_|refine s_q ?_|refine s_e ?_|refine s_j ?_)
  refine o_call rfl rfl rfl (toIntS_ok hA hbA) ?_
  rintro vaA w5 ⟨kw5, faA, aA, gaA⟩
  have skw5 := kw5.size_le
  replace hL := hL.keep kw5
  replace hE := hE.keep kw5
  replace hA := hA.keep kw5
  replace hB := hB.keep kw5
  replace hk := hk.keep kw5
  replace aL := aL.keep kw5
  replace aE := aE.keep kw5
  have loaA := fun b hb => gaA.ge (b := b) hb
  have upaA := aA.dom
  repeat (first|refine z_1 ?_|refine z_2 ?_|refine s_o ?_|refine z_3 ?_|refine z_4 ?_|refine z_5 ?_|refine z_6 ?_|refine z_7 ?_|refine z_8 ?_|refine z_9 ?_|refine z_a ?_|refine z_b ?_|refine z_d ?_|refine z_e ?_|refine z_f ?_|refine z_g ?_|refine z_h ?_|refine z_i ?_|refine z_j ?_|refine s_a ?_|refine s_s ?_|refine s_n ?_|refine s_i ?_|refine s_f ?_|refine s_b ?_|refine s_d ?_|refine s_l1 ?_|refine s_l2 ?_|refine s_l3 ?_|refine s_l4 ?_|refine s_l5 ?_|refine s_l6 ?_|refine s_l7 ?_|refine s_l8 ?_|refine s_l9 ?_|refine s_g ?_|refine s_q ?_|refine s_e ?_|refine s_j ?_)
  refine o_call rfl rfl rfl (toIntS_ok hB hbB) ?_
  rintro vaB w6 ⟨kw6, faB, aB, gaB⟩
  have skw6 := kw6.size_le
  replace hL := hL.keep kw6
  replace hE := hE.keep kw6
  replace hA := hA.keep kw6
  replace hB := hB.keep kw6
  replace hk := hk.keep kw6
  replace aL := aL.keep kw6
  replace aE := aE.keep kw6
  replace aA := aA.keep kw6
  have loaB := fun b hb => gaB.ge (b := b) hb
  have upaB := aB.dom
  repeat (first|refine z_1 ?_|refine z_2 ?_|refine s_o ?_|refine z_3 ?_|refine z_4 ?_|refine z_5 ?_|refine z_6 ?_|refine z_7 ?_|refine z_8 ?_|refine z_9 ?_|refine z_a ?_|refine z_b ?_|refine z_d ?_|refine z_e ?_|refine z_f ?_|refine z_g ?_|refine z_h ?_|refine z_i ?_|refine z_j ?_|refine s_a ?_|refine s_s ?_|refine s_n ?_|refine s_i ?_|refine s_f ?_|refine s_b ?_|refine s_d ?_|refine s_l1 ?_|refine s_l2 ?_|refine s_l3 ?_|refine s_l4 ?_|refine s_l5 ?_|refine s_l6 ?_|refine s_l7 ?_|refine s_l8 ?_|refine s_l9 ?_|refine s_g ?_|refine s_q ?_|refine s_e ?_|refine s_j ?_)
  refine o_call rfl rfl rfl (spec_MergeBest_ok aL aE aA aB hbE hbA hbB) ?_
  rintro vxw w7 ⟨kw7, fxw, xw, gxw⟩
  have skw7 := kw7.size_le
  replace hL := hL.keep kw7
  replace hE := hE.keep kw7
  replace hA := hA.keep kw7
  replace hB := hB.keep kw7
  replace hk := hk.keep kw7
  replace aL := aL.keep kw7
  replace aE := aE.keep kw7
  replace aA := aA.keep kw7
  replace aB := aB.keep kw7
  have loxw := fun b hb => gxw.ge (b := b) hb
  have upxw := xw.dom
  repeat (first|refine z_1 ?_|refine z_2 ?_|refine s_o ?_|refine z_3 ?_|refine z_4 ?_|refine z_5 ?_|refine z_6 ?_|refine z_7 ?_|refine z_8 ?_|refine z_9 ?_|refine z_a ?_|refine z_b ?_|refine z_d ?_|refine z_e ?_|refine z_f ?_|refine z_g ?_|refine z_h ?_|refine z_i ?_|refine z_j ?_|refine s_a ?_|refine s_s ?_|refine s_n ?_|refine s_i ?_|refine s_f ?_|refine s_b ?_|refine s_d ?_|refine s_l1 ?_|refine s_l2 ?_|refine s_l3 ?_|refine s_l4 ?_|refine s_l5 ?_|refine s_l6 ?_|refine s_l7 ?_|refine s_l8 ?_|refine s_l9 ?_|refine s_g ?_|refine s_q ?_|refine s_e ?_|refine s_j ?_)
  refine o_call rfl rfl rfl (toItemS_ok hL hbL) ?_
  rintro vbL w8 ⟨kw8, fbL, bL, gbL⟩
  have skw8 := kw8.size_le
  replace hL := hL.keep kw8
  replace hE := hE.keep kw8
  replace hA := hA.keep kw8
  replace hB := hB.keep kw8
  replace hk := hk.keep kw8
  replace xw := xw.keep kw8
  have lobL := fun b hb => gbL.ge (b := b) hb
  have upbL := bL.dom
  repeat (first|refine z_1 ?_|refine z_2 ?_|refine s_o ?_|refine z_3 ?_|refine z_4 ?_|refine z_5 ?_|refine z_6 ?_|refine z_7 ?_|refine z_8 ?_|refine z_9 ?_|refine z_a ?_|refine z_b ?_|refine z_d ?_|refine z_e ?_|refine z_f ?_|refine z_g ?_|refine z_h ?_|refine z_i ?_|refine z_j ?_|refine s_a ?_|refine s_s ?_|refine s_n ?_|refine s_i ?_|refine s_f ?_|refine s_b ?_|refine s_d ?_|refine s_l1 ?_|refine s_l2 ?_|refine s_l3 ?_|refine s_l4 ?_|refine s_l5 ?_|refine s_l6 ?_|refine s_l7 ?_|refine s_l8 ?_|refine s_l9 ?_|refine s_g ?_|refine s_q ?_|refine s_e ?_|refine s_j ?_)
  refine o_call rfl rfl rfl (toNodeS_ok hE hbE) ?_
  rintro vbE w9 ⟨kw9, fbE, bE, gbE⟩
  have skw9 := kw9.size_le
  replace hL := hL.keep kw9
  replace hE := hE.keep kw9
  replace hA := hA.keep kw9
  replace hB := hB.keep kw9
  replace hk := hk.keep kw9
  replace xw := xw.keep kw9
  replace bL := bL.keep kw9
  replace gbL := gbL.keep kw9
  have lobE := fun b hb => gbE.ge (b := b) hb
  have upbE := bE.dom
  repeat (first|refine z_1 ?_|refine z_2 ?_|refine s_o ?_|refine z_3 ?_|refine z_4 ?_|refine z_5 ?_|refine z_6 ?_|refine z_7 ?_|refine z_8 ?_|refine z_9 ?_|refine z_a ?_|refine z_b ?_|refine z_d ?_|refine z_e ?_|refine z_f ?_|refine z_g ?_|refine z_h ?_|refine z_i ?_|refine z_j ?_|refine s_a ?_|refine s_s ?_|refine s_n ?_|refine s_i ?_|refine s_f ?_|refine s_b ?_|refine s_d ?_|refine s_l1 ?_|refine s_l2 ?_|refine s_l3 ?_|refine s_l4 ?_|refine s_l5 ?_|refine s_l6 ?_|refine s_l7 ?_|refine s_l8 ?_|refine s_l9 ?_|refine s_g ?_|refine s_q ?_|refine s_e ?_|refine s_j ?_)
  refine o_call rfl rfl rfl (toIntS_ok hA hbA) ?_
  rintro vbA w10 ⟨kw10, fbA, bA, gbA⟩
  have skw10 := kw10.size_le
  replace hL := hL.keep kw10
  replace hE := hE.keep kw10
  replace hA := hA.keep kw10
  replace hB := hB.keep kw10
  replace hk := hk.keep kw10
  replace xw := xw.keep kw10
  replace bL := bL.keep kw10
  replace gbL := gbL.keep kw10
  replace bE := bE.keep kw10
  replace gbE := gbE.keep kw10
  have lobA := fun b hb => gbA.ge (b := b) hb
  have upbA := bA.dom
  repeat (first|refine z_1 ?_|refine z_2 ?_|refine s_o ?_|refine z_3 ?_|refine z_4 ?_|refine z_5 ?_|refine z_6 ?_|refine z_7 ?_|refine z_8 ?_|refine z_9 ?_|refine z_a ?_|refine z_b ?_|refine z_d ?_|refine z_e ?_|refine z_f ?_|refine z_g ?_|refine z_h ?_|refine z_i ?_|refine z_j ?_|refine s_a ?_|refine s_s ?_|refine s_n ?_|refine s_i ?_|refine s_f ?_|refine s_b ?_|refine s_d ?_|refine s_l1 ?_|refine s_l2 ?_|refine s_l3 ?_|refine s_l4 ?_|refine s_l5 ?_|refine s_l6 ?_|refine s_l7 ?_|refine s_l8 ?_|refine s_l9 ?_|refine s_g ?_|refine s_q ?_|refine s_e ?_|refine s_j ?_)
  refine o_call rfl rfl rfl (toIntS_ok hB hbB) ?_
  rintro vbB w11 ⟨kw11, fbB, bB, gbB⟩
  have skw11 := kw11.size_le
  replace hL := hL.keep kw11
  replace hE := hE.keep kw11
  replace hA := hA.keep kw11
  replace hB := hB.keep kw11
  replace hk := hk.keep kw11
  replace xw := xw.keep kw11
  replace bL := bL.keep kw11
  replace gbL := gbL.keep kw11
  replace bE := bE.keep kw11
  replace gbE := gbE.keep kw11
  replace bA := bA.keep kw11
  replace gbA := gbA.keep kw11
  have lobB := fun b hb => gbB.ge (b := b) hb
  have upbB := bB.dom
  repeat (first|refine z_1 ?_|refine z_2 ?_|refine s_o ?_|refine z_3 ?_|refine z_4 ?_|refine z_5 ?_|refine z_6 ?_|refine z_7 ?_|refine z_8 ?_|refine z_9 ?_|refine z_a ?_|refine z_b ?_|refine z_d ?_|refine z_e ?_|refine z_f ?_|refine z_g ?_|refine z_h ?_|refine z_i ?_|refine z_j ?_|refine s_a ?_|refine s_s ?_|refine s_n ?_|refine s_i ?_|refine s_f ?_|refine s_b ?_|refine s_d ?_|refine s_l1 ?_|refine s_l2 ?_|refine s_l3 ?_|refine s_l4 ?_|refine s_l5 ?_|refine s_l6 ?_|refine s_l7 ?_|refine s_l8 ?_|refine s_l9 ?_|refine s_g ?_|refine s_q ?_|refine s_e ?_|refine s_j ?_)
  refine o_call rfl rfl rfl (impl_MergeBest_ok bL bE bA bB hbE hbA hbB) ?_
  rintro vxg w12 ⟨kw12, fxg, xg, gxg⟩
  have skw12 := kw12.size_le
  replace hL := hL.keep kw12
  replace hE := hE.keep kw12
  replace hA := hA.keep kw12
  replace hB := hB.keep kw12
  replace hk := hk.keep kw12
  replace xw := xw.keep kw12
  replace bL := bL.keep kw12
  replace gbL := gbL.keep kw12
  replace bE := bE.keep kw12
  replace gbE := gbE.keep kw12
  replace bA := bA.keep kw12
  replace gbA := gbA.keep kw12
  replace bB := bB.keep kw12
  replace gbB := gbB.keep kw12
  have loxg := fun b hb => gxg.ge (b := b) hb
  have upxg := xg.dom
  repeat (first|refine z_1 ?_|refine z_2 ?_|refine s_o ?_|refine z_3 ?_|refine z_4 ?_|refine z_5 ?_|refine z_6 ?_|refine z_7 ?_|refine z_8 ?_|refine z_9 ?_|refine z_a ?_|refine z_b ?_|refine z_d ?_|refine z_e ?_|refine z_f ?_|refine z_g ?_|refine z_h ?_|refine z_i ?_|refine z_j ?_|refine s_a ?_|refine s_s ?_|refine s_n ?_|refine s_i ?_|refine s_f ?_|refine s_b ?_|refine s_d ?_|refine s_l1 ?_|refine s_l2 ?_|refine s_l3 ?_|refine s_l4 ?_|refine s_l5 ?_|refine s_l6 ?_|refine s_l7 ?_|refine s_l8 ?_|refine s_l9 ?_|refine s_g ?_|refine s_q ?_|refine s_e ?_|refine s_j ?_)
  refine o_call rfl rfl rfl (eqIntS_ok xg xw) ?_
  rintro _ w13 ⟨rfl, kw13⟩
  have skw13 := kw13.size_le
  replace hL := hL.keep kw13
  replace hE := hE.keep kw13
  replace hA := hA.keep kw13
  replace hB := hB.keep kw13
  replace hk := hk.keep kw13
  replace xw := xw.keep kw13
  replace bL := bL.keep kw13
  replace gbL := gbL.keep kw13
  replace bE := bE.keep kw13
  replace gbE := gbE.keep kw13
  replace bA := bA.keep kw13
  replace gbA := gbA.keep kw13
  replace bB := bB.keep kw13
  replace gbB := gbB.keep kw13
  replace xg := xg.keep kw13
  replace gxg := gxg.keep kw13
  repeat (first|refine z_1 ?_|refine z_2 ?_|refine s_o ?_|refine z_3 ?_|refine z_4 ?_|refine z_5 ?_|refine z_6 ?_|refine z_7 ?_|refine z_8 ?_|refine z_9 ?_|refine z_a ?_|refine z_b ?_|refine z_d ?_|refine z_e ?_|refine z_f ?_|refine z_g ?_|refine z_h ?_|refine z_i ?_|refine z_j ?_|refine s_a ?_|refine s_s ?_|refine s_n ?_|refine s_i ?_|refine s_f ?_|refine s_b ?_|refine s_d ?_|refine s_l1 ?_|refine s_l2 ?_|refine s_l3 ?_|refine s_l4 ?_|refine s_l5 ?_|refine s_l6 ?_|refine s_l7 ?_|refine s_l8 ?_|refine s_l9 ?_|refine s_g ?_|refine s_q ?_|refine s_e ?_|refine s_j ?_)
  try (refine W_cond rfl (fun hc => by exfalso; first | (simp at hc; done) | (simp at hc; omega) | omega) (fun _ => ?_))
  repeat (first|refine z_1 ?_|refine z_2 ?_|refine s_o ?_|refine z_3 ?_|refine z_4 ?_|refine z_5 ?_|refine z_6 ?_|refine z_7 ?_|refine z_8 ?_|refine z_9 ?_|refine z_a ?_|refine z_b ?_|refine z_d ?_|refine z_e ?_|refine z_f ?_|refine z_g ?_|refine z_h ?_|refine z_i ?_|refine z_j ?_|refine s_a ?_|refine s_s ?_|refine s_n ?_|refine s_i ?_|refine s_f ?_|refine s_b ?_|refine s_d ?_|refine s_l1 ?_|refine s_l2 ?_|refine s_l3 ?_|refine s_l4 ?_|refine s_l5 ?_|refine s_l6 ?_|refine s_l7 ?_|refine s_l8 ?_|refine s_l9 ?_|refine s_g ?_|refine s_q ?_|refine s_e ?_|refine s_j ?_)
  refine o_call rfl rfl rfl (toItemS_ok hL hbL) ?_
  rintro vcL w14 ⟨kw14, fcL, cL, gcL⟩
  have skw14 := kw14.size_le
  replace hL := hL.keep kw14
  replace hE := hE.keep kw14
  replace hA := hA.keep kw14
  replace hB := hB.keep kw14
  replace hk := hk.keep kw14
  replace xw := xw.keep kw14
  replace bL := bL.keep kw14
  replace gbL := gbL.keep kw14
  replace bE := bE.keep kw14
  replace gbE := gbE.keep kw14
  replace bA := bA.keep kw14
  replace gbA := gbA.keep kw14
  replace bB := bB.keep kw14
  replace gbB := gbB.keep kw14
  replace xg := xg.keep kw14
  replace gxg := gxg.keep kw14
  have locL := fun b hb => gcL.ge (b := b) hb
  have upcL := cL.dom
  repeat (first|refine z_1 ?_|refine z_2 ?_|refine s_o ?_|refine z_3 ?_|refine z_4 ?_|refine z_5 ?_|refine z_6 ?_|refine z_7 ?_|refine z_8 ?_|refine z_9 ?_|refine z_a ?_|refine z_b ?_|refine z_d ?_|refine z_e ?_|refine z_f ?_|refine z_g ?_|refine z_h ?_|refine z_i ?_|refine z_j ?_|refine s_a ?_|refine s_s ?_|refine s_n ?_|refine s_i ?_|refine s_f ?_|refine s_b ?_|refine s_d ?_|refine s_l1 ?_|refine s_l2 ?_|refine s_l3 ?_|refine s_l4 ?_|refine s_l5 ?_|refine s_l6 ?_|refine s_l7 ?_|refine s_l8 ?_|refine s_l9 ?_|refine s_g ?_|refine s_q ?_|refine s_e ?_|refine s_j ?_)
  refine o_call rfl rfl rfl (eqItemS_ok bL cL) ?_
  rintro _ w15 ⟨rfl, kw15⟩
  have skw15 := kw15.size_le
  replace hL := hL.keep kw15
  replace hE := hE.keep kw15
  replace hA := hA.keep kw15
  replace hB := hB.keep kw15
  replace hk := hk.keep kw15
  replace xw := xw.keep kw15
  replace bL := bL.keep kw15
  replace gbL := gbL.keep kw15
  replace bE := bE.keep kw15
  replace gbE := gbE.keep kw15
  replace bA := bA.keep kw15
  replace gbA := gbA.keep kw15
  replace bB := bB.keep kw15
  replace gbB := gbB.keep kw15
  replace xg := xg.keep kw15
  replace gxg := gxg.keep kw15
  repeat (first|refine z_1 ?_|refine z_2 ?_|refine s_o ?_|refine z_3 ?_|refine z_4 ?_|refine z_5 ?_|refine z_6 ?_|refine z_7 ?_|refine z_8 ?_|refine z_9 ?_|refine z_a ?_|refine z_b ?_|refine z_d ?_|refine z_e ?_|refine z_f ?_|refine z_g ?_|refine z_h ?_|refine z_i ?_|refine z_j ?_|refine s_a ?_|refine s_s ?_|refine s_n ?_|refine s_i ?_|refine s_f ?_|refine s_b ?_|refine s_d ?_|refine s_l1 ?_|refine s_l2 ?_|refine s_l3 ?_|refine s_l4 ?_|refine s_l5 ?_|refine s_l6 ?_|refine s_l7 ?_|refine s_l8 ?_|refine s_l9 ?_|refine s_g ?_|refine s_q ?_|refine s_e ?_|refine s_j ?_)
  try (refine W_cond rfl (fun hc => by exfalso; first | (simp at hc; done) | (simp at hc; omega) | omega) (fun _ => ?_))
  repeat (first|refine z_1 ?_|refine z_2 ?_|refine s_o ?_|refine z_3 ?_|refine z_4 ?_|refine z_5 ?_|refine z_6 ?_|refine z_7 ?_|refine z_8 ?_|refine z_9 ?_|refine z_a ?_|refine z_b ?_|refine z_d ?_|refine z_e ?_|refine z_f ?_|refine z_g ?_|refine z_h ?_|refine z_i ?_|refine z_j ?_|refine s_a ?_|refine s_s ?_|refine s_n ?_|refine s_i ?_|refine s_f ?_|refine s_b ?_|refine s_d ?_|refine s_l1 ?_|refine s_l2 ?_|refine s_l3 ?_|refine s_l4 ?_|refine s_l5 ?_|refine s_l6 ?_|refine s_l7 ?_|refine s_l8 ?_|refine s_l9 ?_|refine s_g ?_|refine s_q ?_|refine s_e ?_|refine s_j ?_)
  refine o_call rfl rfl rfl (toNodeS_ok hE hbE) ?_
  rintro vcE w16 ⟨kw16, fcE, cE, gcE⟩
  have skw16 := kw16.size_le
  replace hL := hL.keep kw16
  replace hE := hE.keep kw16
  replace hA := hA.keep kw16
  replace hB := hB.keep kw16
  replace hk := hk.keep kw16
  replace xw := xw.keep kw16
  replace bL := bL.keep kw16
  replace gbL := gbL.keep kw16
  replace bE := bE.keep kw16
  replace gbE := gbE.keep kw16
  replace bA := bA.keep kw16
  replace gbA := gbA.keep kw16
  replace bB := bB.keep kw16
  replace gbB := gbB.keep kw16
  replace xg := xg.keep kw16
  replace gxg := gxg.keep kw16
  have locE := fun b hb => gcE.ge (b := b) hb
  have upcE := cE.dom
  repeat (first|refine z_1 ?_|refine z_2 ?_|refine s_o ?_|refine z_3 ?_|refine z_4 ?_|refine z_5 ?_|refine z_6 ?_|refine z_7 ?_|refine z_8 ?_|refine z_9 ?_|refine z_a ?_|refine z_b ?_|refine z_d ?_|refine z_e ?_|refine z_f ?_|refine z_g ?_|refine z_h ?_|refine z_i ?_|refine z_j ?_|refine s_a ?_|refine s_s ?_|refine s_n ?_|refine s_i ?_|refine s_f ?_|refine s_b ?_|refine s_d ?_|refine s_l1 ?_|refine s_l2 ?_|refine s_l3 ?_|refine s_l4 ?_|refine s_l5 ?_|refine s_l6 ?_|refine s_l7 ?_|refine s_l8 ?_|refine s_l9 ?_|refine s_g ?_|refine s_q ?_|refine s_e ?_|refine s_j ?_)
  refine o_call rfl rfl rfl (eqNodeS_ok bE cE) ?_
  rintro _ w17 ⟨rfl, kw17⟩
  have skw17 := kw17.size_le
  replace hL := hL.keep kw17
  replace hE := hE.keep kw17
  replace hA := hA.keep kw17
  replace hB := hB.keep kw17
  replace hk := hk.keep kw17
  replace xw := xw.keep kw17
  replace bL := bL.keep kw17
  replace gbL := gbL.keep kw17
  replace bE := bE.keep kw17
  replace gbE := gbE.keep kw17
  replace bA := bA.keep kw17
  replace gbA := gbA.keep kw17
  replace bB := bB.keep kw17
  replace gbB := gbB.keep kw17
  replace xg := xg.keep kw17
  replace gxg := gxg.keep kw17
  repeat (first|refine z_1 ?_|refine z_2 ?_|refine s_o ?_|refine z_3 ?_|refine z_4 ?_|refine z_5 ?_|refine z_6 ?_|refine z_7 ?_|refine z_8 ?_|refine z_9 ?_|refine z_a ?_|refine z_b ?_|refine z_d ?_|refine z_e ?_|refine z_f ?_|refine z_g ?_|refine z_h ?_|refine z_i ?_|refine z_j ?_|refine s_a ?_|refine s_s ?_|refine s_n ?_|refine s_i ?_|refine s_f ?_|refine s_b ?_|refine s_d ?_|refine s_l1 ?_|refine s_l2 ?_|refine s_l3 ?_|refine s_l4 ?_|refine s_l5 ?_|refine s_l6 ?_|refine s_l7 ?_|refine s_l8 ?_|refine s_l9 ?_|refine s_g ?_|refine s_q ?_|refine s_e ?_|refine s_j ?_)
  try (refine W_cond rfl (fun hc => by exfalso; first | (simp at hc; done) | (simp at hc; omega) | omega) (fun _ => ?_))
  repeat (first|refine z_1 ?_|refine z_2 ?_|refine s_o ?_|refine z_3 ?_|refine z_4 ?_|refine z_5 ?_|refine z_6 ?_|refine z_7 ?_|refine z_8 ?_|refine z_9 ?_|refine z_a ?_|refine z_b ?_|refine z_d ?_|refine z_e ?_|refine z_f ?_|refine z_g ?_|refine z_h ?_|refine z_i ?_|refine z_j ?_|refine s_a ?_|refine s_s ?_|refine s_n ?_|refine s_i ?_|refine s_f ?_|refine s_b ?_|refine s_d ?_|refine s_l1 ?_|refine s_l2 ?_|refine s_l3 ?_|refine s_l4 ?_|refine s_l5 ?_|refine s_l6 ?_|refine s_l7 ?_|refine s_l8 ?_|refine s_l9 ?_|refine s_g ?_|refine s_q ?_|refine s_e ?_|refine s_j ?_)
  refine o_call rfl rfl rfl (toIntS_ok hA hbA) ?_
  rintro vcA w18 ⟨kw18, fcA, cA, gcA⟩
  have skw18 := kw18.size_le
  replace hL := hL.keep kw18
  replace hE := hE.keep kw18
  replace hA := hA.keep kw18
  replace hB := hB.keep kw18
  replace hk := hk.keep kw18
  replace xw := xw.keep kw18
  replace bL := bL.keep kw18
  replace gbL := gbL.keep kw18
  replace bE := bE.keep kw18
  replace gbE := gbE.keep kw18
  replace bA := bA.keep kw18
  replace gbA := gbA.keep kw18
  replace bB := bB.keep kw18
  replace gbB := gbB.keep kw18
  replace xg := xg.keep kw18
  replace gxg := gxg.keep kw18
  have locA := fun b hb => gcA.ge (b := b) hb
  have upcA := cA.dom
  repeat (first|refine z_1 ?_|refine z_2 ?_|refine s_o ?_|refine z_3 ?_|refine z_4 ?_|refine z_5 ?_|refine z_6 ?_|refine z_7 ?_|refine z_8 ?_|refine z_9 ?_|refine z_a ?_|refine z_b ?_|refine z_d ?_|refine z_e ?_|refine z_f ?_|refine z_g ?_|refine z_h ?_|refine z_i ?_|refine z_j ?_|refine s_a ?_|refine s_s ?_|refine s_n ?_|refine s_i ?_|refine s_f ?_|refine s_b ?_|refine s_d ?_|refine s_l1 ?_|refine s_l2 ?_|refine s_l3 ?_|refine s_l4 ?_|refine s_l5 ?_|refine s_l6 ?_|refine s_l7 ?_|refine s_l8 ?_|refine s_l9 ?_|refine s_g ?_|refine s_q ?_|refine s_e ?_|refine s_j ?_)
  refine o_call rfl rfl rfl (eqIntS_ok bA cA) ?_
  rintro _ w19 ⟨rfl, kw19⟩
  have skw19 := kw19.size_le
  replace hL := hL.keep kw19
  replace hE := hE.keep kw19
  replace hA := hA.keep kw19
  replace hB := hB.keep kw19
  replace hk := hk.keep kw19
  replace xw := xw.keep kw19
  replace bL := bL.keep kw19
  replace gbL := gbL.keep kw19
  replace bE := bE.keep kw19
  replace gbE := gbE.keep kw19
  replace bA := bA.keep kw19
  replace gbA := gbA.keep kw19
  replace bB := bB.keep kw19
  replace gbB := gbB.keep kw19
  replace xg := xg.keep kw19
  replace gxg := gxg.keep kw19
  repeat (first|refine z_1 ?_|refine z_2 ?_|refine s_o ?_|refine z_3 ?_|refine z_4 ?_|refine z_5 ?_|refine z_6 ?_|refine z_7 ?_|refine z_8 ?_|refine z_9 ?_|refine z_a ?_|refine z_b ?_|refine z_d ?_|refine z_e ?_|refine z_f ?_|refine z_g ?_|refine z_h ?_|refine z_i ?_|refine z_j ?_|refine s_a ?_|refine s_s ?_|refine s_n ?_|refine s_i ?_|refine s_f ?_|refine s_b ?_|refine s_d ?_|refine s_l1 ?_|refine s_l2 ?_|refine s_l3 ?_|refine s_l4 ?_|refine s_l5 ?_|refine s_l6 ?_|refine s_l7 ?_|refine s_l8 ?_|refine s_l9 ?_|refine s_g ?_|refine s_q ?_|refine s_e ?_|refine s_j ?_)
  try (refine W_cond rfl (fun hc => by exfalso; first | (simp at hc; done) | (simp at hc; omega) | omega) (fun _ => ?_))
  repeat (first|refine z_1 ?_|refine z_2 ?_|refine s_o ?_|refine z_3 ?_|refine z_4 ?_|refine z_5 ?_|refine z_6 ?_|refine z_7 ?_|refine z_8 ?_|refine z_9 ?_|refine z_a ?_|refine z_b ?_|refine z_d ?_|refine z_e ?_|refine z_f ?_|refine z_g ?_|refine z_h ?_|refine z_i ?_|refine z_j ?_|refine s_a ?_|refine s_s ?_|refine s_n ?_|refine s_i ?_|refine s_f ?_|refine s_b ?_|refine s_d ?_|refine s_l1 ?_|refine s_l2 ?_|refine s_l3 ?_|refine s_l4 ?_|refine s_l5 ?_|refine s_l6 ?_|refine s_l7 ?_|refine s_l8 ?_|refine s_l9 ?_|refine s_g ?_|refine s_q ?_|refine s_e ?_|refine s_j ?_)
  refine o_call rfl rfl rfl (toIntS_ok hB hbB) ?_
  rintro vcB w20 ⟨kw20, fcB, cB, gcB⟩
  have skw20 := kw20.size_le
  replace hL := hL.keep kw20
  replace hE := hE.keep kw20
  replace hA := hA.keep kw20
  replace hB := hB.keep kw20
  replace hk := hk.keep kw20
  replace xw := xw.keep kw20
  replace bL := bL.keep kw20
  replace gbL := gbL.keep kw20
  replace bE := bE.keep kw20
  replace gbE := gbE.keep kw20
  replace bA := bA.keep kw20
  replace gbA := gbA.keep kw20
  replace bB := bB.keep kw20
  replace gbB := gbB.keep kw20
  replace xg := xg.keep kw20
  replace gxg := gxg.keep kw20
  have locB := fun b hb => gcB.ge (b := b) hb
  have upcB := cB.dom
  repeat (first|refine z_1 ?_|refine z_2 ?_|refine s_o ?_|refine z_3 ?_|refine z_4 ?_|refine z_5 ?_|refine z_6 ?_|refine z_7 ?_|refine z_8 ?_|refine z_9 ?_|refine z_a ?_|refine z_b ?_|refine z_d ?_|refine z_e ?_|refine z_f ?_|refine z_g ?_|refine z_h ?_|refine z_i ?_|refine z_j ?_|refine s_a ?_|refine s_s ?_|refine s_n ?_|refine s_i ?_|refine s_f ?_|refine s_b ?_|refine s_d ?_|refine s_l1 ?_|refine s_l2 ?_|refine s_l3 ?_|refine s_l4 ?_|refine s_l5 ?_|refine s_l6 ?_|refine s_l7 ?_|refine s_l8 ?_|refine s_l9 ?_|refine s_g ?_|refine s_q ?_|refine s_e ?_|refine s_j ?_)
  refine o_call rfl rfl rfl (eqIntS_ok bB cB) ?_
  rintro _ w21 ⟨rfl, kw21⟩
  have skw21 := kw21.size_le
  replace hL := hL.keep kw21
  replace hE := hE.keep kw21
  replace hA := hA.keep kw21
  replace hB := hB.keep kw21
  replace hk := hk.keep kw21
  replace xw := xw.keep kw21
  replace bL := bL.keep kw21
  replace gbL := gbL.keep kw21
  replace bE := bE.keep kw21
  replace gbE := gbE.keep kw21
  replace bA := bA.keep kw21
  replace gbA := gbA.keep kw21
  replace bB := bB.keep kw21
  replace gbB := gbB.keep kw21
  replace xg := xg.keep kw21
  replace gxg := gxg.keep kw21
  repeat (first|refine z_1 ?_|refine z_2 ?_|refine s_o ?_|refine z_3 ?_|refine z_4 ?_|refine z_5 ?_|refine z_6 ?_|refine z_7 ?_|refine z_8 ?_|refine z_9 ?_|refine z_a ?_|refine z_b ?_|refine z_d ?_|refine z_e ?_|refine z_f ?_|refine z_g ?_|refine z_h ?_|refine z_i ?_|refine z_j ?_|refine s_a ?_|refine s_s ?_|refine s_n ?_|refine s_i ?_|refine s_f ?_|refine s_b ?_|refine s_d ?_|refine s_l1 ?_|refine s_l2 ?_|refine s_l3 ?_|refine s_l4 ?_|refine s_l5 ?_|refine s_l6 ?_|refine s_l7 ?_|refine s_l8 ?_|refine s_l9 ?_|refine s_g ?_|refine s_q ?_|refine s_e ?_|refine s_j ?_)
  try (refine W_cond rfl (fun hc => by exfalso; first | (simp at hc; done) | (simp at hc; omega) | omega) (fun _ => ?_))
  repeat (first|refine z_1 ?_|refine z_2 ?_|refine s_o ?_|refine z_3 ?_|refine z_4 ?_|refine z_5 ?_|refine z_6 ?_|refine z_7 ?_|refine z_8 ?_|refine z_9 ?_|refine z_a ?_|refine z_b ?_|refine z_d ?_|refine z_e ?_|refine z_f ?_|refine z_g ?_|refine z_h ?_|refine z_i ?_|refine z_j ?_|refine s_a ?_|refine s_s ?_|refine s_n ?_|refine s_i ?_|refine s_f ?_|refine s_b ?_|refine s_d ?_|refine s_l1 ?_|refine s_l2 ?_|refine s_l3 ?_|refine s_l4 ?_|refine s_l5 ?_|refine s_l6 ?_|refine s_l7 ?_|refine s_l8 ?_|refine s_l9 ?_|refine s_g ?_|refine s_q ?_|refine s_e ?_|refine s_j ?_)
  refine o_call rfl rfl rfl (markItemS_ok bL gbL (by omega) (by omega)) ?_
  rintro _ w22 ⟨rfl, bL, gbL, qw22⟩
  have sw22 := qw22.size
  replace hL := hL.wrs qw22 (fun b h1 h2 => by have := upL b h1; have := lobL b h2; have := upbL b h2; omega)
  replace hE := hE.wrs qw22 (fun b h1 h2 => by have := upE b h1; have := lobL b h2; have := upbL b h2; omega)
  replace hA := hA.wrs qw22 (fun b h1 h2 => by have := upA b h1; have := lobL b h2; have := upbL b h2; omega)
  replace hB := hB.wrs qw22 (fun b h1 h2 => by have := upB b h1; have := lobL b h2; have := upbL b h2; omega)
  replace hk := qw22.keep hk (fun b hb => by have := lobL b hb; omega)
  replace xw := xw.wrs qw22 (fun b h1 h2 => by have := upxw b h1; have := lobL b h2; have := upbL b h2; omega)
  replace bE := bE.wrs qw22 (fun b h1 h2 => by have := lobE b h1; have := upbE b h1; have := lobL b h2; have := upbL b h2; omega)
  replace gbE := gbE.wrs qw22 (fun b h1 h2 => by have := lobE b h1; have := upbE b h1; have := lobL b h2; have := upbL b h2; omega)
  replace bA := bA.wrs qw22 (fun b h1 h2 => by have := lobA b h1; have := upbA b h1; have := lobL b h2; have := upbL b h2; omega)
  replace gbA := gbA.wrs qw22 (fun b h1 h2 => by have := lobA b h1; have := upbA b h1; have := lobL b h2; have := upbL b h2; omega)
  replace bB := bB.wrs qw22 (fun b h1 h2 => by have := lobB b h1; have := upbB b h1; have := lobL b h2; have := upbL b h2; omega)
  replace gbB := gbB.wrs qw22 (fun b h1 h2 => by have := lobB b h1; have := upbB b h1; have := lobL b h2; have := upbL b h2; omega)
  replace xg := xg.wrs qw22 (fun b h1 h2 => by have := loxg b h1; have := upxg b h1; have := lobL b h2; have := upbL b h2; omega)
  replace gxg := gxg.wrs qw22 (fun b h1 h2 => by have := loxg b h1; have := upxg b h1; have := lobL b h2; have := upbL b h2; omega)
  repeat (first|refine z_1 ?_|refine z_2 ?_|refine s_o ?_|refine z_3 ?_|refine z_4 ?_|refine z_5 ?_|refine z_6 ?_|refine z_7 ?_|refine z_8 ?_|refine z_9 ?_|refine z_a ?_|refine z_b ?_|refine z_d ?_|refine z_e ?_|refine z_f ?_|refine z_g ?_|refine z_h ?_|refine z_i ?_|refine z_j ?_|refine s_a ?_|refine s_s ?_|refine s_n ?_|refine s_i ?_|refine s_f ?_|refine s_b ?_|refine s_d ?_|refine s_l1 ?_|refine s_l2 ?_|refine s_l3 ?_|refine s_l4 ?_|refine s_l5 ?_|refine s_l6 ?_|refine s_l7 ?_|refine s_l8 ?_|refine s_l9 ?_|refine s_g ?_|refine s_q ?_|refine s_e ?_|refine s_j ?_)
  refine o_call rfl rfl rfl (markNodeS_ok bE gbE (by omega) (by have := nCnt_le E; omega)) ?_
  rintro _ w23 ⟨rfl, bE, gbE, qw23⟩
  have sw23 := qw23.size
  replace hL := hL.wrs qw23 (fun b h1 h2 => by have := upL b h1; have := lobE b h2; have := upbE b h2; omega)
  replace hE := hE.wrs qw23 (fun b h1 h2 => by have := upE b h1; have := lobE b h2; have := upbE b h2; omega)
  replace hA := hA.wrs qw23 (fun b h1 h2 => by have := upA b h1; have := lobE b h2; have := upbE b h2; omega)
  replace hB := hB.wrs qw23 (fun b h1 h2 => by have := upB b h1; have := lobE b h2; have := upbE b h2; omega)
  replace hk := qw23.keep hk (fun b hb => by have := lobE b hb; omega)
  replace xw := xw.wrs qw23 (fun b h1 h2 => by have := upxw b h1; have := lobE b h2; have := upbE b h2; omega)
  replace bA := bA.wrs qw23 (fun b h1 h2 => by have := lobA b h1; have := upbA b h1; have := lobE b h2; have := upbE b h2; omega)
  replace gbA := gbA.wrs qw23 (fun b h1 h2 => by have := lobA b h1; have := upbA b h1; have := lobE b h2; have := upbE b h2; omega)
  replace bB := bB.wrs qw23 (fun b h1 h2 => by have := lobB b h1; have := upbB b h1; have := lobE b h2; have := upbE b h2; omega)
  replace gbB := gbB.wrs qw23 (fun b h1 h2 => by have := lobB b h1; have := upbB b h1; have := lobE b h2; have := upbE b h2; omega)
  replace xg := xg.wrs qw23 (fun b h1 h2 => by have := loxg b h1; have := upxg b h1; have := lobE b h2; have := upbE b h2; omega)
  replace gxg := gxg.wrs qw23 (fun b h1 h2 => by have := loxg b h1; have := upxg b h1; have := lobE b h2; have := upbE b h2; omega)
  replace bL := bL.wrs qw23 (fun b h1 h2 => by have := lobL b h1; have := upbL b h1; have := lobE b h2; have := upbE b h2; omega)
  replace gbL := gbL.wrs qw23 (fun b h1 h2 => by have := lobL b h1; have := upbL b h1; have := lobE b h2; have := upbE b h2; omega)
  repeat (first|refine z_1 ?_|refine z_2 ?_|refine s_o ?_|refine z_3 ?_|refine z_4 ?_|refine z_5 ?_|refine z_6 ?_|refine z_7 ?_|refine z_8 ?_|refine z_9 ?_|refine z_a ?_|refine z_b ?_|refine z_d ?_|refine z_e ?_|refine z_f ?_|refine z_g ?_|refine z_h ?_|refine z_i ?_|refine z_j ?_|refine s_a ?_|refine s_s ?_|refine s_n ?_|refine s_i ?_|refine s_f ?_|refine s_b ?_|refine s_d ?_|refine s_l1 ?_|refine s_l2 ?_|refine s_l3 ?_|refine s_l4 ?_|refine s_l5 ?_|refine s_l6 ?_|refine s_l7 ?_|refine s_l8 ?_|refine s_l9 ?_|refine s_g ?_|refine s_q ?_|refine s_e ?_|refine s_j ?_)
  refine o_call rfl rfl rfl (markIntS_ok bA gbA (by omega) (by omega)) ?_
  rintro _ w24 ⟨rfl, bA, gbA, qw24⟩
  have sw24 := qw24.size
  replace hL := hL.wrs qw24 (fun b h1 h2 => by have := upL b h1; have := lobA b h2; have := upbA b h2; omega)
  replace hE := hE.wrs qw24 (fun b h1 h2 => by have := upE b h1; have := lobA b h2; have := upbA b h2; omega)
  replace hA := hA.wrs qw24 (fun b h1 h2 => by have := upA b h1; have := lobA b h2; have := upbA b h2; omega)
  replace hB := hB.wrs qw24 (fun b h1 h2 => by have := upB b h1; have := lobA b h2; have := upbA b h2; omega)
  replace hk := qw24.keep hk (fun b hb => by have := lobA b hb; omega)
  replace xw := xw.wrs qw24 (fun b h1 h2 => by have := upxw b h1; have := lobA b h2; have := upbA b h2; omega)
  replace bB := bB.wrs qw24 (fun b h1 h2 => by have := lobB b h1; have := upbB b h1; have := lobA b h2; have := upbA b h2; omega)
  replace gbB := gbB.wrs qw24 (fun b h1 h2 => by have := lobB b h1; have := upbB b h1; have := lobA b h2; have := upbA b h2; omega)
  replace xg := xg.wrs qw24 (fun b h1 h2 => by have := loxg b h1; have := upxg b h1; have := lobA b h2; have := upbA b h2; omega)
  replace gxg := gxg.wrs qw24 (fun b h1 h2 => by have := loxg b h1; have := upxg b h1; have := lobA b h2; have := upbA b h2; omega)
  replace bL := bL.wrs qw24 (fun b h1 h2 => by have := lobL b h1; have := upbL b h1; have := lobA b h2; have := upbA b h2; omega)
  replace gbL := gbL.wrs qw24 (fun b h1 h2 => by have := lobL b h1; have := upbL b h1; have := lobA b h2; have := upbA b h2; omega)
  replace bE := bE.wrs qw24 (fun b h1 h2 => by have := lobE b h1; have := upbE b h1; have := lobA b h2; have := upbA b h2; omega)
  replace gbE := gbE.wrs qw24 (fun b h1 h2 => by have := lobE b h1; have := upbE b h1; have := lobA b h2; have := upbA b h2; omega)
  repeat (first|refine z_1 ?_|refine z_2 ?_|refine s_o ?_|refine z_3 ?_|refine z_4 ?_|refine z_5 ?_|refine z_6 ?_|refine z_7 ?_|refine z_8 ?_|refine z_9 ?_|refine z_a ?_|refine z_b ?_|refine z_d ?_|refine z_e ?_|refine z_f ?_|refine z_g ?_|refine z_h ?_|refine z_i ?_|refine z_j ?_|refine s_a ?_|refine s_s ?_|refine s_n ?_|refine s_i ?_|refine s_f ?_|refine s_b ?_|refine s_d ?_|refine s_l1 ?_|refine s_l2 ?_|refine s_l3 ?_|refine s_l4 ?_|refine s_l5 ?_|refine s_l6 ?_|refine s_l7 ?_|refine s_l8 ?_|refine s_l9 ?_|refine s_g ?_|refine s_q ?_|refine s_e ?_|refine s_j ?_)
  refine o_call rfl rfl rfl (markIntS_ok bB gbB (by omega) (by omega)) ?_
  rintro _ w25 ⟨rfl, bB, gbB, qw25⟩
  have sw25 := qw25.size
  replace hL := hL.wrs qw25 (fun b h1 h2 => by have := upL b h1; have := lobB b h2; have := upbB b h2; omega)
  replace hE := hE.wrs qw25 (fun b h1 h2 => by have := upE b h1; have := lobB b h2; have := upbB b h2; omega)
  replace hA := hA.wrs qw25 (fun b h1 h2 => by have := upA b h1; have := lobB b h2; have := upbB b h2; omega)
  replace hB := hB.wrs qw25 (fun b h1 h2 => by have := upB b h1; have := lobB b h2; have := upbB b h2; omega)
  replace hk := qw25.keep hk (fun b hb => by have := lobB b hb; omega)
  replace xw := xw.wrs qw25 (fun b h1 h2 => by have := upxw b h1; have := lobB b h2; have := upbB b h2; omega)
  replace xg := xg.wrs qw25 (fun b h1 h2 => by have := loxg b h1; have := upxg b h1; have := lobB b h2; have := upbB b h2; omega)
  replace gxg := gxg.wrs qw25 (fun b h1 h2 => by have := loxg b h1; have := upxg b h1; have := lobB b h2; have := upbB b h2; omega)
  replace bL := bL.wrs qw25 (fun b h1 h2 => by have := lobL b h1; have := upbL b h1; have := lobB b h2; have := upbB b h2; omega)
  replace gbL := gbL.wrs qw25 (fun b h1 h2 => by have := lobL b h1; have := upbL b h1; have := lobB b h2; have := upbB b h2; omega)
  replace bE := bE.wrs qw25 (fun b h1 h2 => by have := lobE b h1; have := upbE b h1; have := lobB b h2; have := upbB b h2; omega)
  replace gbE := gbE.wrs qw25 (fun b h1 h2 => by have := lobE b h1; have := upbE b h1; have := lobB b h2; have := upbB b h2; omega)
  replace bA := bA.wrs qw25 (fun b h1 h2 => by have := lobA b h1; have := upbA b h1; have := lobB b h2; have := upbB b h2; omega)
  replace gbA := gbA.wrs qw25 (fun b h1 h2 => by have := lobA b h1; have := upbA b h1; have := lobB b h2; have := upbB b h2; omega)
  repeat (first|refine z_1 ?_|refine z_2 ?_|refine s_o ?_|refine z_3 ?_|refine z_4 ?_|refine z_5 ?_|refine z_6 ?_|refine z_7 ?_|refine z_8 ?_|refine z_9 ?_|refine z_a ?_|refine z_b ?_|refine z_d ?_|refine z_e ?_|refine z_f ?_|refine z_g ?_|refine z_h ?_|refine z_i ?_|refine z_j ?_|refine s_a ?_|refine s_s ?_|refine s_n ?_|refine s_i ?_|refine s_f ?_|refine s_b ?_|refine s_d ?_|refine s_l1 ?_|refine s_l2 ?_|refine s_l3 ?_|refine s_l4 ?_|refine s_l5 ?_|refine s_l6 ?_|refine s_l7 ?_|refine s_l8 ?_|refine s_l9 ?_|refine s_g ?_|refine s_q ?_|refine s_e ?_|refine s_j ?_)
  try (refine WL_part rfl rfl (fun hc => by exfalso; first | (simp at hc; done) | (simp at hc; omega) | omega) (fun _ => ?_))
  repeat (first|refine z_1 ?_|refine z_2 ?_|refine s_o ?_|refine z_3 ?_|refine z_4 ?_|refine z_5 ?_|refine z_6 ?_|refine z_7 ?_|refine z_8 ?_|refine z_9 ?_|refine z_a ?_|refine z_b ?_|refine z_d ?_|refine z_e ?_|refine z_f ?_|refine z_g ?_|refine z_h ?_|refine z_i ?_|refine z_j ?_|refine s_a ?_|refine s_s ?_|refine s_n ?_|refine s_i ?_|refine s_f ?_|refine s_b ?_|refine s_d ?_|refine s_l1 ?_|refine s_l2 ?_|refine s_l3 ?_|refine s_l4 ?_|refine s_l5 ?_|refine s_l6 ?_|refine s_l7 ?_|refine s_l8 ?_|refine s_l9 ?_|refine s_g ?_|refine s_q ?_|refine s_e ?_|refine s_j ?_)
  refine o_call rfl rfl rfl (eqIntS_ok xg xw) ?_
  rintro _ w26 ⟨rfl, kw26⟩
  have skw26 := kw26.size_le
  replace hL := hL.keep kw26
  replace hE := hE.keep kw26
  replace hA := hA.keep kw26
  replace hB := hB.keep kw26
  replace hk := hk.keep kw26
  replace xw := xw.keep kw26
  replace xg := xg.keep kw26
  replace gxg := gxg.keep kw26
  replace bL := bL.keep kw26
  replace gbL := gbL.keep kw26
  replace bE := bE.keep kw26
  replace gbE := gbE.keep kw26
  replace bA := bA.keep kw26
  replace gbA := gbA.keep kw26
  replace bB := bB.keep kw26
  replace gbB := gbB.keep kw26
  repeat (first|refine z_1 ?_|refine z_2 ?_|refine s_o ?_|refine z_3 ?_|refine z_4 ?_|refine z_5 ?_|refine z_6 ?_|refine z_7 ?_|refine z_8 ?_|refine z_9 ?_|refine z_a ?_|refine z_b ?_|refine z_d ?_|refine z_e ?_|refine z_f ?_|refine z_g ?_|refine z_h ?_|refine z_i ?_|refine z_j ?_|refine s_a ?_|refine s_s ?_|refine s_n ?_|refine s_i ?_|refine s_f ?_|refine s_b ?_|refine s_d ?_|refine s_l1 ?_|refine s_l2 ?_|refine s_l3 ?_|refine s_l4 ?_|refine s_l5 ?_|refine s_l6 ?_|refine s_l7 ?_|refine s_l8 ?_|refine s_l9 ?_|refine s_g ?_|refine s_q ?_|refine s_e ?_|refine s_j ?_)
  try (refine W_cond rfl (fun hc => by exfalso; first | (simp at hc; done) | (simp at hc; omega) | omega) (fun _ => ?_))
  repeat (first|refine z_1 ?_|refine z_2 ?_|refine s_o ?_|refine z_3 ?_|refine z_4 ?_|refine z_5 ?_|refine z_6 ?_|refine z_7 ?_|refine z_8 ?_|refine z_9 ?_|refine z_a ?_|refine z_b ?_|refine z_d ?_|refine z_e ?_|refine z_f ?_|refine z_g ?_|refine z_h ?_|refine z_i ?_|refine z_j ?_|refine s_a ?_|refine s_s ?_|refine s_n ?_|refine s_i ?_|refine s_f ?_|refine s_b ?_|refine s_d ?_|refine s_l1 ?_|refine s_l2 ?_|refine s_l3 ?_|refine s_l4 ?_|refine s_l5 ?_|refine s_l6 ?_|refine s_l7 ?_|refine s_l8 ?_|refine s_l9 ?_|refine s_g ?_|refine s_q ?_|refine s_e ?_|refine s_j ?_)
  have hm : ∀ k : Int, 0 ≤ k → heldI k (iota k (mergeBest L E A B).length) = _ := fun k hk => heldI_iota k _
  refine o_call rfl rfl rfl (markIntS_ok xg gxg (by omega) (by have := mergeBest_len L E A B; omega)) ?_
  rintro _ w27 ⟨rfl, xg, gxg, qw27⟩
  have sw27 := qw27.size
  replace hL := hL.wrs qw27 (fun b h1 h2 => by have := upL b h1; have := loxg b h2; have := upxg b h2; omega)
  replace hE := hE.wrs qw27 (fun b h1 h2 => by have := upE b h1; have := loxg b h2; have := upxg b h2; omega)
  replace hA := hA.wrs qw27 (fun b h1 h2 => by have := upA b h1; have := loxg b h2; have := upxg b h2; omega)
  replace hB := hB.wrs qw27 (fun b h1 h2 => by have := upB b h1; have := loxg b h2; have := upxg b h2; omega)
  replace hk := qw27.keep hk (fun b hb => by have := loxg b hb; omega)
  replace xw := xw.wrs qw27 (fun b h1 h2 => by have := upxw b h1; have := loxg b h2; have := upxg b h2; omega)
  replace bL := bL.wrs qw27 (fun b h1 h2 => by have := lobL b h1; have := upbL b h1; have := loxg b h2; have := upxg b h2; omega)
  replace gbL := gbL.wrs qw27 (fun b h1 h2 => by have := lobL b h1; have := upbL b h1; have := loxg b h2; have := upxg b h2; omega)
  replace bE := bE.wrs qw27 (fun b h1 h2 => by have := lobE b h1; have := upbE b h1; have := loxg b h2; have := upxg b h2; omega)
  replace gbE := gbE.wrs qw27 (fun b h1 h2 => by have := lobE b h1; have := upbE b h1; have := loxg b h2; have := upxg b h2; omega)
  replace bA := bA.wrs qw27 (fun b h1 h2 => by have := lobA b h1; have := upbA b h1; have := loxg b h2; have := upxg b h2; omega)
  replace gbA := gbA.wrs qw27 (fun b h1 h2 => by have := lobA b h1; have := upbA b h1; have := loxg b h2; have := upxg b h2; omega)
  replace bB := bB.wrs qw27 (fun b h1 h2 => by have := lobB b h1; have := upbB b h1; have := loxg b h2; have := upxg b h2; omega)
  replace gbB := gbB.wrs qw27 (fun b h1 h2 => by have := lobB b h1; have := upbB b h1; have := loxg b h2; have := upxg b h2; omega)
  repeat (first|refine z_1 ?_|refine z_2 ?_|refine s_o ?_|refine z_3 ?_|refine z_4 ?_|refine z_5 ?_|refine z_6 ?_|refine z_7 ?_|refine z_8 ?_|refine z_9 ?_|refine z_a ?_|refine z_b ?_|refine z_d ?_|refine z_e ?_|refine z_f ?_|refine z_g ?_|refine z_h ?_|refine z_i ?_|refine z_j ?_|refine s_a ?_|refine s_s ?_|refine s_n ?_|refine s_i ?_|refine s_f ?_|refine s_b ?_|refine s_d ?_|refine s_l1 ?_|refine s_l2 ?_|refine s_l3 ?_|refine s_l4 ?_|refine s_l5 ?_|refine s_l6 ?_|refine s_l7 ?_|refine s_l8 ?_|refine s_l9 ?_|refine s_g ?_|refine s_q ?_|refine s_e ?_|refine s_j ?_)
  refine o_call rfl rfl rfl (heldIntS_ok xg (by omega) (by rw [iota_len]; have := mergeBest_len L E A B; omega)) ?_
  rintro _ _ ⟨rfl, rfl⟩
  rw [hm 1 (by omega)]
  repeat (first|refine z_1 ?_|refine z_2 ?_|refine s_o ?_|refine z_3 ?_|refine z_4 ?_|refine z_5 ?_|refine z_6 ?_|refine z_7 ?_|refine z_8 ?_|refine z_9 ?_|refine z_a ?_|refine z_b ?_|refine z_d ?_|refine z_e ?_|refine z_f ?_|refine z_g ?_|refine z_h ?_|refine z_i ?_|refine z_j ?_|refine s_a ?_|refine s_s ?_|refine s_n ?_|refine s_i ?_|refine s_f ?_|refine s_b ?_|refine s_d ?_|refine s_l1 ?_|refine s_l2 ?_|refine s_l3 ?_|refine s_l4 ?_|refine s_l5 ?_|refine s_l6 ?_|refine s_l7 ?_|refine s_l8 ?_|refine s_l9 ?_|refine s_g ?_|refine s_q ?_|refine s_e ?_|refine s_j ?_)
  try (refine W_cond rfl (fun hc => by exfalso; first | (simp at hc; done) | (simp at hc; omega) | omega) (fun _ => ?_))
  repeat (first|refine z_1 ?_|refine z_2 ?_|refine s_o ?_|refine z_3 ?_|refine z_4 ?_|refine z_5 ?_|refine z_6 ?_|refine z_7 ?_|refine z_8 ?_|refine z_9 ?_|refine z_a ?_|refine z_b ?_|refine z_d ?_|refine z_e ?_|refine z_f ?_|refine z_g ?_|refine z_h ?_|refine z_i ?_|refine z_j ?_|refine s_a ?_|refine s_s ?_|refine s_n ?_|refine s_i ?_|refine s_f ?_|refine s_b ?_|refine s_d ?_|refine s_l1 ?_|refine s_l2 ?_|refine s_l3 ?_|refine s_l4 ?_|refine s_l5 ?_|refine s_l6 ?_|refine s_l7 ?_|refine s_l8 ?_|refine s_l9 ?_|refine s_g ?_|refine s_q ?_|refine s_e ?_|refine s_j ?_)
  try (refine W_cond rfl (fun hc => by exfalso; first | (simp at hc; done) | (simp at hc; omega) | omega) (fun _ => ?_))
  repeat (first|refine z_1 ?_|refine z_2 ?_|refine s_o ?_|refine z_3 ?_|refine z_4 ?_|refine z_5 ?_|refine z_6 ?_|refine z_7 ?_|refine z_8 ?_|refine z_9 ?_|refine z_a ?_|refine z_b ?_|refine z_d ?_|refine z_e ?_|refine z_f ?_|refine z_g ?_|refine z_h ?_|refine z_i ?_|refine z_j ?_|refine s_a ?_|refine s_s ?_|refine s_n ?_|refine s_i ?_|refine s_f ?_|refine s_b ?_|refine s_d ?_|refine s_l1 ?_|refine s_l2 ?_|refine s_l3 ?_|refine s_l4 ?_|refine s_l5 ?_|refine s_l6 ?_|refine s_l7 ?_|refine s_l8 ?_|refine s_l9 ?_|refine s_g ?_|refine s_q ?_|refine s_e ?_|refine s_j ?_)
  refine o_call rfl rfl rfl (toItemS_ok hL hbL) ?_
  rintro vdL w28 ⟨kw28, fdL, dL, gdL⟩
  have skw28 := kw28.size_le
  replace hL := hL.keep kw28
  replace hE := hE.keep kw28
  replace hA := hA.keep kw28
  replace hB := hB.keep kw28
  replace hk := hk.keep kw28
  replace xw := xw.keep kw28
  replace bE := bE.keep kw28
  replace gbE := gbE.keep kw28
  replace bA := bA.keep kw28
  replace gbA := gbA.keep kw28
  replace bB := bB.keep kw28
  replace gbB := gbB.keep kw28
  replace xg := xg.keep kw28
  replace gxg := gxg.keep kw28
  have lodL := fun b hb => gdL.ge (b := b) hb
  have updL := dL.dom
  repeat (first|refine z_1 ?_|refine z_2 ?_|refine s_o ?_|refine z_3 ?_|refine z_4 ?_|refine z_5 ?_|refine z_6 ?_|refine z_7 ?_|refine z_8 ?_|refine z_9 ?_|refine z_a ?_|refine z_b ?_|refine z_d ?_|refine z_e ?_|refine z_f ?_|refine z_g ?_|refine z_h ?_|refine z_i ?_|refine z_j ?_|refine s_a ?_|refine s_s ?_|refine s_n ?_|refine s_i ?_|refine s_f ?_|refine s_b ?_|refine s_d ?_|refine s_l1 ?_|refine s_l2 ?_|refine s_l3 ?_|refine s_l4 ?_|refine s_l5 ?_|refine s_l6 ?_|refine s_l7 ?_|refine s_l8 ?_|refine s_l9 ?_|refine s_g ?_|refine s_q ?_|refine s_e ?_|refine s_j ?_)
  refine o_call rfl rfl rfl (toNodeS_ok hE hbE) ?_
  rintro vdE w29 ⟨kw29, fdE, dE, gdE⟩
  have skw29 := kw29.size_le
  replace hL := hL.keep kw29
  replace hE := hE.keep kw29
  replace hA := hA.keep kw29
  replace hB := hB.keep kw29
  replace hk := hk.keep kw29
  replace xw := xw.keep kw29
  replace bA := bA.keep kw29
  replace gbA := gbA.keep kw29
  replace bB := bB.keep kw29
  replace gbB := gbB.keep kw29
  replace xg := xg.keep kw29
  replace gxg := gxg.keep kw29
  replace dL := dL.keep kw29
  have lodE := fun b hb => gdE.ge (b := b) hb
  have updE := dE.dom
  repeat (first|refine z_1 ?_|refine z_2 ?_|refine s_o ?_|refine z_3 ?_|refine z_4 ?_|refine z_5 ?_|refine z_6 ?_|refine z_7 ?_|refine z_8 ?_|refine z_9 ?_|refine z_a ?_|refine z_b ?_|refine z_d ?_|refine z_e ?_|refine z_f ?_|refine z_g ?_|refine z_h ?_|refine z_i ?_|refine z_j ?_|refine s_a ?_|refine s_s ?_|refine s_n ?_|refine s_i ?_|refine s_f ?_|refine s_b ?_|refine s_d ?_|refine s_l1 ?_|refine s_l2 ?_|refine s_l3 ?_|refine s_l4 ?_|refine s_l5 ?_|refine s_l6 ?_|refine s_l7 ?_|refine s_l8 ?_|refine s_l9 ?_|refine s_g ?_|refine s_q ?_|refine s_e ?_|refine s_j ?_)
  refine o_call rfl rfl rfl (toIntS_ok hA hbA) ?_
  rintro vdA w30 ⟨kw30, fdA, dA, gdA⟩
  have skw30 := kw30.size_le
  replace hL := hL.keep kw30
  replace hE := hE.keep kw30
  replace hA := hA.keep kw30
  replace hB := hB.keep kw30
  replace hk := hk.keep kw30
  replace xw := xw.keep kw30
  replace bB := bB.keep kw30
  replace gbB := gbB.keep kw30
  replace xg := xg.keep kw30
  replace gxg := gxg.keep kw30
  replace dL := dL.keep kw30
  replace dE := dE.keep kw30
  have lodA := fun b hb => gdA.ge (b := b) hb
  have updA := dA.dom
  repeat (first|refine z_1 ?_|refine z_2 ?_|refine s_o ?_|refine z_3 ?_|refine z_4 ?_|refine z_5 ?_|refine z_6 ?_|refine z_7 ?_|refine z_8 ?_|refine z_9 ?_|refine z_a ?_|refine z_b ?_|refine z_d ?_|refine z_e ?_|refine z_f ?_|refine z_g ?_|refine z_h ?_|refine z_i ?_|refine z_j ?_|refine s_a ?_|refine s_s ?_|refine s_n ?_|refine s_i ?_|refine s_f ?_|refine s_b ?_|refine s_d ?_|refine s_l1 ?_|refine s_l2 ?_|refine s_l3 ?_|refine s_l4 ?_|refine s_l5 ?_|refine s_l6 ?_|refine s_l7 ?_|refine s_l8 ?_|refine s_l9 ?_|refine s_g ?_|refine s_q ?_|refine s_e ?_|refine s_j ?_)
  refine o_call rfl rfl rfl (toIntS_ok hB hbB) ?_
  rintro vdB w31 ⟨kw31, fdB, dB, gdB⟩
  have skw31 := kw31.size_le
  replace hL := hL.keep kw31
  replace hE := hE.keep kw31
  replace hA := hA.keep kw31
  replace hB := hB.keep kw31
  replace hk := hk.keep kw31
  replace xw := xw.keep kw31
  replace xg := xg.keep kw31
  replace gxg := gxg.keep kw31
  replace dL := dL.keep kw31
  replace dE := dE.keep kw31
  replace dA := dA.keep kw31
  have lodB := fun b hb => gdB.ge (b := b) hb
  have updB := dB.dom
  repeat (first|refine z_1 ?_|refine z_2 ?_|refine s_o ?_|refine z_3 ?_|refine z_4 ?_|refine z_5 ?_|refine z_6 ?_|refine z_7 ?_|refine z_8 ?_|refine z_9 ?_|refine z_a ?_|refine z_b ?_|refine z_d ?_|refine z_e ?_|refine z_f ?_|refine z_g ?_|refine z_h ?_|refine z_i ?_|refine z_j ?_|refine s_a ?_|refine s_s ?_|refine s_n ?_|refine s_i ?_|refine s_f ?_|refine s_b ?_|refine s_d ?_|refine s_l1 ?_|refine s_l2 ?_|refine s_l3 ?_|refine s_l4 ?_|refine s_l5 ?_|refine s_l6 ?_|refine s_l7 ?_|refine s_l8 ?_|refine s_l9 ?_|refine s_g ?_|refine s_q ?_|refine s_e ?_|refine s_j ?_)
  refine o_call rfl rfl rfl (impl_MergeBest_ok dL dE dA dB hbE hbA hbB) ?_
  rintro vxh w32 ⟨kw32, fxh, xh, gxh⟩
  have skw32 := kw32.size_le
  replace hL := hL.keep kw32
  replace hE := hE.keep kw32
  replace hA := hA.keep kw32
  replace hB := hB.keep kw32
  replace hk := hk.keep kw32
  replace xw := xw.keep kw32
  replace xg := xg.keep kw32
  replace gxg := gxg.keep kw32
  replace dL := dL.keep kw32
  replace dE := dE.keep kw32
  replace dA := dA.keep kw32
  replace dB := dB.keep kw32
  have loxh := fun b hb => gxh.ge (b := b) hb
  have upxh := xh.dom
  repeat (first|refine z_1 ?_|refine z_2 ?_|refine s_o ?_|refine z_3 ?_|refine z_4 ?_|refine z_5 ?_|refine z_6 ?_|refine z_7 ?_|refine z_8 ?_|refine z_9 ?_|refine z_a ?_|refine z_b ?_|refine z_d ?_|refine z_e ?_|refine z_f ?_|refine z_g ?_|refine z_h ?_|refine z_i ?_|refine z_j ?_|refine s_a ?_|refine s_s ?_|refine s_n ?_|refine s_i ?_|refine s_f ?_|refine s_b ?_|refine s_d ?_|refine s_l1 ?_|refine s_l2 ?_|refine s_l3 ?_|refine s_l4 ?_|refine s_l5 ?_|refine s_l6 ?_|refine s_l7 ?_|refine s_l8 ?_|refine s_l9 ?_|refine s_g ?_|refine s_q ?_|refine s_e ?_|refine s_j ?_)
  refine o_call rfl rfl rfl (eqIntS_ok xh xw) ?_
  rintro _ w33 ⟨rfl, kw33⟩
  have skw33 := kw33.size_le
  replace hL := hL.keep kw33
  replace hE := hE.keep kw33
  replace hA := hA.keep kw33
  replace hB := hB.keep kw33
  replace hk := hk.keep kw33
  replace xw := xw.keep kw33
  replace xg := xg.keep kw33
  replace gxg := gxg.keep kw33
  replace xh := xh.keep kw33
  repeat (first|refine z_1 ?_|refine z_2 ?_|refine s_o ?_|refine z_3 ?_|refine z_4 ?_|refine z_5 ?_|refine z_6 ?_|refine z_7 ?_|refine z_8 ?_|refine z_9 ?_|refine z_a ?_|refine z_b ?_|refine z_d ?_|refine z_e ?_|refine z_f ?_|refine z_g ?_|refine z_h ?_|refine z_i ?_|refine z_j ?_|refine s_a ?_|refine s_s ?_|refine s_n ?_|refine s_i ?_|refine s_f ?_|refine s_b ?_|refine s_d ?_|refine s_l1 ?_|refine s_l2 ?_|refine s_l3 ?_|refine s_l4 ?_|refine s_l5 ?_|refine s_l6 ?_|refine s_l7 ?_|refine s_l8 ?_|refine s_l9 ?_|refine s_g ?_|refine s_q ?_|refine s_e ?_|refine s_j ?_)
  try (refine W_cond rfl (fun hc => by exfalso; first | (simp at hc; done) | (simp at hc; omega) | omega) (fun _ => ?_))
  repeat (first|refine z_1 ?_|refine z_2 ?_|refine s_o ?_|refine z_3 ?_|refine z_4 ?_|refine z_5 ?_|refine z_6 ?_|refine z_7 ?_|refine z_8 ?_|refine z_9 ?_|refine z_a ?_|refine z_b ?_|refine z_d ?_|refine z_e ?_|refine z_f ?_|refine z_g ?_|refine z_h ?_|refine z_i ?_|refine z_j ?_|refine s_a ?_|refine s_s ?_|refine s_n ?_|refine s_i ?_|refine s_f ?_|refine s_b ?_|refine s_d ?_|refine s_l1 ?_|refine s_l2 ?_|refine s_l3 ?_|refine s_l4 ?_|refine s_l5 ?_|refine s_l6 ?_|refine s_l7 ?_|refine s_l8 ?_|refine s_l9 ?_|refine s_g ?_|refine s_q ?_|refine s_e ?_|refine s_j ?_)
  refine o_call rfl rfl rfl (heldIntS_ok xg (by omega) (by rw [iota_len]; have := mergeBest_len L E A B; omega)) ?_
  rintro _ _ ⟨rfl, rfl⟩
  rw [hm 1 (by omega)]
  repeat (first|refine z_1 ?_|refine z_2 ?_|refine s_o ?_|refine z_3 ?_|refine z_4 ?_|refine z_5 ?_|refine z_6 ?_|refine z_7 ?_|refine z_8 ?_|refine z_9 ?_|refine z_a ?_|refine z_b ?_|refine z_d ?_|refine z_e ?_|refine z_f ?_|refine z_g ?_|refine z_h ?_|refine z_i ?_|refine z_j ?_|refine s_a ?_|refine s_s ?_|refine s_n ?_|refine s_i ?_|refine s_f ?_|refine s_b ?_|refine s_d ?_|refine s_l1 ?_|refine s_l2 ?_|refine s_l3 ?_|refine s_l4 ?_|refine s_l5 ?_|refine s_l6 ?_|refine s_l7 ?_|refine s_l8 ?_|refine s_l9 ?_|refine s_g ?_|refine s_q ?_|refine s_e ?_|refine s_j ?_)
  try (refine W_cond rfl (fun hc => by exfalso; first | (simp at hc; done) | (simp at hc; omega) | omega) (fun _ => ?_))
  repeat (first|refine z_1 ?_|refine z_2 ?_|refine s_o ?_|refine z_3 ?_|refine z_4 ?_|refine z_5 ?_|refine z_6 ?_|refine z_7 ?_|refine z_8 ?_|refine z_9 ?_|refine z_a ?_|refine z_b ?_|refine z_d ?_|refine z_e ?_|refine z_f ?_|refine z_g ?_|refine z_h ?_|refine z_i ?_|refine z_j ?_|refine s_a ?_|refine s_s ?_|refine s_n ?_|refine s_i ?_|refine s_f ?_|refine s_b ?_|refine s_d ?_|refine s_l1 ?_|refine s_l2 ?_|refine s_l3 ?_|refine s_l4 ?_|refine s_l5 ?_|refine s_l6 ?_|refine s_l7 ?_|refine s_l8 ?_|refine s_l9 ?_|refine s_g ?_|refine s_q ?_|refine s_e ?_|refine s_j ?_)
  try (refine W_cond rfl (fun hc => by exfalso; first | (simp at hc; done) | (simp at hc; omega) | omega) (fun _ => ?_))
  repeat (first|refine z_1 ?_|refine z_2 ?_|refine s_o ?_|refine z_3 ?_|refine z_4 ?_|refine z_5 ?_|refine z_6 ?_|refine z_7 ?_|refine z_8 ?_|refine z_9 ?_|refine z_a ?_|refine z_b ?_|refine z_d ?_|refine z_e ?_|refine z_f ?_|refine z_g ?_|refine z_h ?_|refine z_i ?_|refine z_j ?_|refine s_a ?_|refine s_s ?_|refine s_n ?_|refine s_i ?_|refine s_f ?_|refine s_b ?_|refine s_d ?_|refine s_l1 ?_|refine s_l2 ?_|refine s_l3 ?_|refine s_l4 ?_|refine s_l5 ?_|refine s_l6 ?_|refine s_l7 ?_|refine s_l8 ?_|refine s_l9 ?_|refine s_g ?_|refine s_q ?_|refine s_e ?_|refine s_j ?_)
  exact ret1 rfl rfl ⟨rfl, hk⟩
end Go.E
