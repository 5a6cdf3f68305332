/-
  'FnExactBoxBest' holds for every input: it returns true, and the inputs read as they did. Conditions: none.
-/
import Derived.Test.YtomkdoppjimhoaaTe
import Derived.Test.YtomkdoppjimhoaaTb
import Derived.Test.YtomkdoppjimhoaaLi
import Derived.Test.YtomkdoppjimhoaaLb
set_option linter.unusedVariables false
set_option linter.unusedSimpArgs false
namespace Go.E
open Go Go.RowKit Go.Proofs
attribute [local irreducible] W WL WD WE thenE inE retQ PureOp Keep Cell Cells Blk Sl Rows Own Src Fresh

set_option maxHeartbeats 2000000 in
theorem law_BoxBest {w : World} {vL : Value} {L : List Itm} {pL : List Nat} (hL : Sl itemR w vL L pL) {vF : Value} {F : List Int} {pF : List Nat} (hF : Sl intR w vF F pF) :
    Run Try.prog 7 [vL, vF] w (fun r w' => r = .bool true ∧ Keep w w') := by
  have upL := hL.dom
  obtain ⟨AF, nF, cF, rfl, hnF⟩ := hF.split
  have upF := hF.dom
  have hk := Keep.refl w
  refine Run_intro Try.func7 (by unfold CallOk; kernel_rfl) rfl Try.ntmps7 (Nat.le_of_ble_eq_true rfl) ?_
  simp only [penv, Nat.reduceAdd, Nat.zero_add]
  repeat refine zz ?_
  refine W_cond rfl (fun hcF => ?_) (fun hcF => ?_)
  · repeat refine zz ?_
    exact ret1 rfl rfl ⟨rfl, hk⟩
  simp at hcF
  have hbF : F.length ≤ 1048576 := by omega
  repeat refine zz ?_
  refine o_call rfl rfl rfl (szItemS_ok hL (by omega) (by omega)) ?_
  rintro _ w1 ⟨rfl, kw1⟩
  have skw1 := kw1.size_le
  replace hL := hL.keep kw1
  replace hF := hF.keep kw1
  replace hk := hk.keep kw1
  repeat refine zz ?_
  refine W_cond rfl (fun hcL => ?_) (fun hcL => ?_)
  · repeat refine zz ?_
    exact ret1 rfl rfl ⟨rfl, hk⟩
  simp only [decide_eq_false_iff_not] at hcL
  have hlL := szN_bd hcL (by omega)
  have hbL : L.length + totI L ≤ 1048576 := by have := szN_ge hcL; omega
  repeat refine zz ?_
  refine o_call rfl rfl rfl (toItemS_ok hL hbL) ?_
  rintro vaL w2 ⟨kw2, faL, aL, gaL⟩
  have skw2 := kw2.size_le
  replace hL := hL.keep kw2
  replace hF := hF.keep kw2
  replace hk := hk.keep kw2
  have loaL := fun b hb => gaL.ge (b := b) hb
  have upaL := aL.dom
  repeat refine zz ?_
  refine o_call rfl rfl rfl (toIntS_ok hF hbF) ?_
  rintro vaF w3 ⟨kw3, faF, aF, gaF⟩
  have skw3 := kw3.size_le
  replace hL := hL.keep kw3
  replace hF := hF.keep kw3
  replace hk := hk.keep kw3
  replace aL := aL.keep kw3
  have loaF := fun b hb => gaF.ge (b := b) hb
  have upaF := aF.dom
  repeat refine zz ?_
  refine o_call rfl rfl rfl (spec_BoxBest_ok aL aF) ?_
  rintro _ w4 ⟨kw4, vxw, fxw, rfl, xw, gxw⟩
  have skw4 := kw4.size_le
  replace hL := hL.keep kw4
  replace hF := hF.keep kw4
  replace hk := hk.keep kw4
  replace aL := aL.keep kw4
  replace aF := aF.keep kw4
  have loxw := fun b hb => gxw.ge (b := b) hb
  have upxw := xw.dom
  repeat refine zz ?_
  refine o_call rfl rfl rfl (toItemS_ok hL hbL) ?_
  rintro vbL w5 ⟨kw5, fbL, bL, gbL⟩
  have skw5 := kw5.size_le
  replace hL := hL.keep kw5
  replace hF := hF.keep kw5
  replace hk := hk.keep kw5
  replace xw := xw.keep kw5
  have lobL := fun b hb => gbL.ge (b := b) hb
  have upbL := bL.dom
  repeat refine zz ?_
  refine o_call rfl rfl rfl (toIntS_ok hF hbF) ?_
  rintro vbF w6 ⟨kw6, fbF, bF, gbF⟩
  have skw6 := kw6.size_le
  replace hL := hL.keep kw6
  replace hF := hF.keep kw6
  replace hk := hk.keep kw6
  replace xw := xw.keep kw6
  replace bL := bL.keep kw6
  replace gbL := gbL.keep kw6
  have lobF := fun b hb => gbF.ge (b := b) hb
  have upbF := bF.dom
  repeat refine zz ?_
  refine o_call rfl rfl rfl (impl_BoxBest_ok bL bF) ?_
  rintro _ w7 ⟨kw7, vxg, fxg, rfl, xg, gxg⟩
  have skw7 := kw7.size_le
  replace hL := hL.keep kw7
  replace hF := hF.keep kw7
  replace hk := hk.keep kw7
  replace xw := xw.keep kw7
  replace bL := bL.keep kw7
  replace gbL := gbL.keep kw7
  replace bF := bF.keep kw7
  replace gbF := gbF.keep kw7
  have loxg := fun b hb => gxg.ge (b := b) hb
  have upxg := xg.dom
  repeat refine zz ?_
  refine o_call rfl rfl rfl (eqIntS_ok xg xw) ?_
  rintro _ w8 ⟨rfl, kw8⟩
  have skw8 := kw8.size_le
  replace hL := hL.keep kw8
  replace hF := hF.keep kw8
  replace hk := hk.keep kw8
  replace xw := xw.keep kw8
  replace bL := bL.keep kw8
  replace gbL := gbL.keep kw8
  replace bF := bF.keep kw8
  replace gbF := gbF.keep kw8
  replace xg := xg.keep kw8
  replace gxg := gxg.keep kw8
  repeat refine zz ?_
  try (refine WL_part rfl rfl (fun hc => by exfalso; first | (simp at hc; done) | (simp at hc; omega) | omega) (fun _ => ?_))
  repeat refine zz ?_
  try (refine W_cond rfl (fun hc => by exfalso; first | (simp at hc; done) | (simp at hc; omega) | omega) (fun _ => ?_))
  repeat refine zz ?_
  refine o_call rfl rfl rfl (toItemS_ok hL hbL) ?_
  rintro vcL w9 ⟨kw9, fcL, cL, gcL⟩
  have skw9 := kw9.size_le
  replace hL := hL.keep kw9
  replace hF := hF.keep kw9
  replace hk := hk.keep kw9
  replace xw := xw.keep kw9
  replace bL := bL.keep kw9
  replace gbL := gbL.keep kw9
  replace bF := bF.keep kw9
  replace gbF := gbF.keep kw9
  replace xg := xg.keep kw9
  replace gxg := gxg.keep kw9
  have locL := fun b hb => gcL.ge (b := b) hb
  have upcL := cL.dom
  repeat refine zz ?_
  refine o_call rfl rfl rfl (eqItemS_ok bL cL) ?_
  rintro _ w10 ⟨rfl, kw10⟩
  have skw10 := kw10.size_le
  replace hL := hL.keep kw10
  replace hF := hF.keep kw10
  replace hk := hk.keep kw10
  replace xw := xw.keep kw10
  replace bL := bL.keep kw10
  replace gbL := gbL.keep kw10
  replace bF := bF.keep kw10
  replace gbF := gbF.keep kw10
  replace xg := xg.keep kw10
  replace gxg := gxg.keep kw10
  repeat refine zz ?_
  try (refine W_cond rfl (fun hc => by exfalso; first | (simp at hc; done) | (simp at hc; omega) | omega) (fun _ => ?_))
  repeat refine zz ?_
  refine o_call rfl rfl rfl (toIntS_ok hF hbF) ?_
  rintro vcF w11 ⟨kw11, fcF, cF, gcF⟩
  have skw11 := kw11.size_le
  replace hL := hL.keep kw11
  replace hF := hF.keep kw11
  replace hk := hk.keep kw11
  replace xw := xw.keep kw11
  replace bL := bL.keep kw11
  replace gbL := gbL.keep kw11
  replace bF := bF.keep kw11
  replace gbF := gbF.keep kw11
  replace xg := xg.keep kw11
  replace gxg := gxg.keep kw11
  have locF := fun b hb => gcF.ge (b := b) hb
  have upcF := cF.dom
  repeat refine zz ?_
  refine o_call rfl rfl rfl (eqIntS_ok bF cF) ?_
  rintro _ w12 ⟨rfl, kw12⟩
  have skw12 := kw12.size_le
  replace hL := hL.keep kw12
  replace hF := hF.keep kw12
  replace hk := hk.keep kw12
  replace xw := xw.keep kw12
  replace bL := bL.keep kw12
  replace gbL := gbL.keep kw12
  replace bF := bF.keep kw12
  replace gbF := gbF.keep kw12
  replace xg := xg.keep kw12
  replace gxg := gxg.keep kw12
  repeat refine zz ?_
  try (refine W_cond rfl (fun hc => by exfalso; first | (simp at hc; done) | (simp at hc; omega) | omega) (fun _ => ?_))
  repeat refine zz ?_
  refine o_call rfl rfl rfl (markItemS_ok bL gbL (by omega) (by omega)) ?_
  rintro _ w13 ⟨rfl, bL, gbL, qw13⟩
  have sw13 := qw13.size
  replace hL := hL.wrs qw13 (fun b h1 h2 => by have := upL b h1; have := lobL b h2; have := upbL b h2; omega)
  replace hF := hF.wrs qw13 (fun b h1 h2 => by have := upF b h1; have := lobL b h2; have := upbL b h2; omega)
  replace hk := qw13.keep hk (fun b hb => by have := lobL b hb; omega)
  replace xw := xw.wrs qw13 (fun b h1 h2 => by have := upxw b h1; have := lobL b h2; have := upbL b h2; omega)
  replace bF := bF.wrs qw13 (fun b h1 h2 => by have := lobF b h1; have := upbF b h1; have := lobL b h2; have := upbL b h2; omega)
  replace gbF := gbF.wrs qw13 (fun b h1 h2 => by have := lobF b h1; have := upbF b h1; have := lobL b h2; have := upbL b h2; omega)
  replace xg := xg.wrs qw13 (fun b h1 h2 => by have := loxg b h1; have := upxg b h1; have := lobL b h2; have := upbL b h2; omega)
  replace gxg := gxg.wrs qw13 (fun b h1 h2 => by have := loxg b h1; have := upxg b h1; have := lobL b h2; have := upbL b h2; omega)
  repeat refine zz ?_
  refine o_call rfl rfl rfl (markIntS_ok bF gbF (by omega) (by omega)) ?_
  rintro _ w14 ⟨rfl, bF, gbF, qw14⟩
  have sw14 := qw14.size
  replace hL := hL.wrs qw14 (fun b h1 h2 => by have := upL b h1; have := lobF b h2; have := upbF b h2; omega)
  replace hF := hF.wrs qw14 (fun b h1 h2 => by have := upF b h1; have := lobF b h2; have := upbF b h2; omega)
  replace hk := qw14.keep hk (fun b hb => by have := lobF b hb; omega)
  replace xw := xw.wrs qw14 (fun b h1 h2 => by have := upxw b h1; have := lobF b h2; have := upbF b h2; omega)
  replace xg := xg.wrs qw14 (fun b h1 h2 => by have := loxg b h1; have := upxg b h1; have := lobF b h2; have := upbF b h2; omega)
  replace gxg := gxg.wrs qw14 (fun b h1 h2 => by have := loxg b h1; have := upxg b h1; have := lobF b h2; have := upbF b h2; omega)
  replace bL := bL.wrs qw14 (fun b h1 h2 => by have := lobL b h1; have := upbL b h1; have := lobF b h2; have := upbF b h2; omega)
  replace gbL := gbL.wrs qw14 (fun b h1 h2 => by have := lobL b h1; have := upbL b h1; have := lobF b h2; have := upbF b h2; omega)
  repeat refine zz ?_
  try (refine WL_part rfl rfl (fun hc => by exfalso; first | (simp at hc; done) | (simp at hc; omega) | omega) (fun _ => ?_))
  repeat refine zz ?_
  refine o_call rfl rfl rfl (eqIntS_ok xg xw) ?_
  rintro _ w15 ⟨rfl, kw15⟩
  have skw15 := kw15.size_le
  replace hL := hL.keep kw15
  replace hF := hF.keep kw15
  replace hk := hk.keep kw15
  replace xw := xw.keep kw15
  replace xg := xg.keep kw15
  replace gxg := gxg.keep kw15
  replace bL := bL.keep kw15
  replace gbL := gbL.keep kw15
  replace bF := bF.keep kw15
  replace gbF := gbF.keep kw15
  repeat refine zz ?_
  try (refine WL_part rfl rfl (fun hc => by exfalso; first | (simp at hc; done) | (simp at hc; omega) | omega) (fun _ => ?_))
  repeat refine zz ?_
  try (refine W_cond rfl (fun hc => by exfalso; first | (simp at hc; done) | (simp at hc; omega) | omega) (fun _ => ?_))
  repeat refine zz ?_
  have hm : ∀ k : Int, 0 ≤ k → heldI k (iota k ((boxBest L F).1).length) = _ := fun k hk => heldI_iota k _
  refine o_call rfl rfl rfl (markIntS_ok xg gxg (by omega) (by have := boxBest_len L F; omega)) ?_
  rintro _ w16 ⟨rfl, xg, gxg, qw16⟩
  have sw16 := qw16.size
  replace hL := hL.wrs qw16 (fun b h1 h2 => by have := upL b h1; have := loxg b h2; have := upxg b h2; omega)
  replace hF := hF.wrs qw16 (fun b h1 h2 => by have := upF b h1; have := loxg b h2; have := upxg b h2; omega)
  replace hk := qw16.keep hk (fun b hb => by have := loxg b hb; omega)
  replace xw := xw.wrs qw16 (fun b h1 h2 => by have := upxw b h1; have := loxg b h2; have := upxg b h2; omega)
  replace bL := bL.wrs qw16 (fun b h1 h2 => by have := lobL b h1; have := upbL b h1; have := loxg b h2; have := upxg b h2; omega)
  replace gbL := gbL.wrs qw16 (fun b h1 h2 => by have := lobL b h1; have := upbL b h1; have := loxg b h2; have := upxg b h2; omega)
  replace bF := bF.wrs qw16 (fun b h1 h2 => by have := lobF b h1; have := upbF b h1; have := loxg b h2; have := upxg b h2; omega)
  replace gbF := gbF.wrs qw16 (fun b h1 h2 => by have := lobF b h1; have := upbF b h1; have := loxg b h2; have := upxg b h2; omega)
  repeat refine zz ?_
  refine o_call rfl rfl rfl (heldIntS_ok xg (by omega) (by rw [iota_len]; have := boxBest_len L F; omega)) ?_
  rintro _ _ ⟨rfl, rfl⟩
  rw [hm 1 (by omega)]
  repeat refine zz ?_
  try (refine W_cond rfl (fun hc => by exfalso; first | (simp at hc; done) | (simp at hc; omega) | omega) (fun _ => ?_))
  repeat refine zz ?_
  try (refine W_cond rfl (fun hc => by exfalso; first | (simp at hc; done) | (simp at hc; omega) | omega) (fun _ => ?_))
  repeat refine zz ?_
  refine o_call rfl rfl rfl (toItemS_ok hL hbL) ?_
  rintro vdL w17 ⟨kw17, fdL, dL, gdL⟩
  have skw17 := kw17.size_le
  replace hL := hL.keep kw17
  replace hF := hF.keep kw17
  replace hk := hk.keep kw17
  replace xw := xw.keep kw17
  replace bF := bF.keep kw17
  replace gbF := gbF.keep kw17
  replace xg := xg.keep kw17
  replace gxg := gxg.keep kw17
  have lodL := fun b hb => gdL.ge (b := b) hb
  have updL := dL.dom
  repeat refine zz ?_
  refine o_call rfl rfl rfl (toIntS_ok hF hbF) ?_
  rintro vdF w18 ⟨kw18, fdF, dF, gdF⟩
  have skw18 := kw18.size_le
  replace hL := hL.keep kw18
  replace hF := hF.keep kw18
  replace hk := hk.keep kw18
  replace xw := xw.keep kw18
  replace xg := xg.keep kw18
  replace gxg := gxg.keep kw18
  replace dL := dL.keep kw18
  have lodF := fun b hb => gdF.ge (b := b) hb
  have updF := dF.dom
  repeat refine zz ?_
  refine o_call rfl rfl rfl (impl_BoxBest_ok dL dF) ?_
  rintro _ w19 ⟨kw19, vxh, fxh, rfl, xh, gxh⟩
  have skw19 := kw19.size_le
  replace hL := hL.keep kw19
  replace hF := hF.keep kw19
  replace hk := hk.keep kw19
  replace xw := xw.keep kw19
  replace xg := xg.keep kw19
  replace gxg := gxg.keep kw19
  replace dL := dL.keep kw19
  replace dF := dF.keep kw19
  have loxh := fun b hb => gxh.ge (b := b) hb
  have upxh := xh.dom
  repeat refine zz ?_
  refine o_call rfl rfl rfl (eqIntS_ok xh xw) ?_
  rintro _ w20 ⟨rfl, kw20⟩
  have skw20 := kw20.size_le
  replace hL := hL.keep kw20
  replace hF := hF.keep kw20
  replace hk := hk.keep kw20
  replace xw := xw.keep kw20
  replace xg := xg.keep kw20
  replace gxg := gxg.keep kw20
  replace xh := xh.keep kw20
  repeat refine zz ?_
  try (refine WL_part rfl rfl (fun hc => by exfalso; first | (simp at hc; done) | (simp at hc; omega) | omega) (fun _ => ?_))
  repeat refine zz ?_
  try (refine W_cond rfl (fun hc => by exfalso; first | (simp at hc; done) | (simp at hc; omega) | omega) (fun _ => ?_))
  repeat refine zz ?_
  refine o_call rfl rfl rfl (heldIntS_ok xg (by omega) (by rw [iota_len]; have := boxBest_len L F; omega)) ?_
  rintro _ _ ⟨rfl, rfl⟩
  rw [hm 1 (by omega)]
  repeat refine zz ?_
  try (refine W_cond rfl (fun hc => by exfalso; first | (simp at hc; done) | (simp at hc; omega) | omega) (fun _ => ?_))
  repeat refine zz ?_
  try (refine W_cond rfl (fun hc => by exfalso; first | (simp at hc; done) | (simp at hc; omega) | omega) (fun _ => ?_))
  repeat refine zz ?_
  exact ret1 rfl rfl ⟨rfl, hk⟩
end Go.E
