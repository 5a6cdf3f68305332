/-
  'FnExactSmallestSet' holds for every input: it returns true, and the inputs read as they did. Conditions: none.
-/
import Derived.Test.YtoemiahnilmdlaaSt2
import Derived.Test.YtoemiahnilmdlaaLi
set_option linter.unusedVariables false
set_option linter.unusedSimpArgs false
namespace Go.E
open Go Go.RowKit Go.Proofs
attribute [local irreducible] W WL WD WE thenE inE retQ PureOp Keep Cell Cells Blk Sl Rows Own Src Fresh

set_option maxHeartbeats 2000000 in
theorem law_SmallestSet {w : World} {vL : Value} {L : List Itm} {pL : List Nat} (hL : Sl itemR w vL L pL) (Num : Int) (wfNum : (Lit.int .i64 Num).wf = true) (Den : Int) (wfDen : (Lit.int .i64 Den).wf = true) :
    Run Try.prog 3 [vL, .int .i64 Num, .int .i64 Den] w (fun r w' => r = .bool true ∧ Keep w w') := by
  have upL := hL.dom
  have hk := Keep.refl w
  refine Run_intro Try.func3 (by unfold CallOk; kernel_rfl) rfl Try.ntmps3 (Nat.le_of_ble_eq_true rfl) ?_
  simp only [penv, Nat.reduceAdd, Nat.zero_add]
  repeat refine zz ?_
  refine o_call rfl rfl rfl (szItemS_ok hL (by omega) (by omega)) ?_
  rintro _ w1 ⟨rfl, kw1⟩
  have skw1 := kw1.size_le
  replace hL := hL.keep kw1
  replace hk := hk.keep kw1
  repeat refine zz ?_
  refine W_cond rfl (fun hcL => ?_) (fun hcL => ?_)
  · repeat refine zz ?_
    exact ret1 rfl rfl ⟨rfl, hk⟩
  simp only [decide_eq_false_iff_not] at hcL
  have hlL := szN_bd hcL (by omega)
  have hbL : L.length + totI L ≤ 1048576 := by have := szN_ge hcL; omega
  repeat refine zz ?_
  refine o_call rfl rfl rfl (toItemS_ok hL hbL) ?_
  rintro vaL w2 ⟨kw2, faL, aL, gaL⟩
  have skw2 := kw2.size_le
  replace hL := hL.keep kw2
  replace hk := hk.keep kw2
  have loaL := fun b hb => gaL.ge (b := b) hb
  have upaL := aL.dom
  repeat refine zz ?_
  refine o_call rfl rfl rfl (spec_SmallestSet_ok aL Num Den) ?_
  rintro _ w3 ⟨kw3, vxw, fxw, rfl, xw, gxw⟩
  have skw3 := kw3.size_le
  replace hL := hL.keep kw3
  replace hk := hk.keep kw3
  replace aL := aL.keep kw3
  have loxw := fun b hb => gxw.ge (b := b) hb
  have upxw := xw.dom
  repeat refine zz ?_
  refine o_call rfl rfl rfl (toItemS_ok hL hbL) ?_
  rintro vbL w4 ⟨kw4, fbL, bL, gbL⟩
  have skw4 := kw4.size_le
  replace hL := hL.keep kw4
  replace hk := hk.keep kw4
  replace xw := xw.keep kw4
  have lobL := fun b hb => gbL.ge (b := b) hb
  have upbL := bL.dom
  repeat refine zz ?_
  refine o_call rfl rfl rfl (impl_SmallestSet_ok bL Num Den) ?_
  rintro _ w5 ⟨kw5, vxg, fxg, rfl, xg, gxg⟩
  have skw5 := kw5.size_le
  replace hL := hL.keep kw5
  replace hk := hk.keep kw5
  replace xw := xw.keep kw5
  replace bL := bL.keep kw5
  replace gbL := gbL.keep kw5
  have loxg := fun b hb => gxg.ge (b := b) hb
  have upxg := xg.dom
  repeat refine zz ?_
  refine o_call rfl rfl rfl (eqIntS_ok xg xw) ?_
  rintro _ w6 ⟨rfl, kw6⟩
  have skw6 := kw6.size_le
  replace hL := hL.keep kw6
  replace hk := hk.keep kw6
  replace xw := xw.keep kw6
  replace bL := bL.keep kw6
  replace gbL := gbL.keep kw6
  replace xg := xg.keep kw6
  replace gxg := gxg.keep kw6
  repeat refine zz ?_
  try (refine WL_part rfl rfl (fun hc => by exfalso; first | (simp at hc; done) | (simp at hc; omega) | omega) (fun _ => ?_))
  repeat refine zz ?_
  try (refine W_cond rfl (fun hc => by exfalso; first | (simp at hc; done) | (simp at hc; omega) | omega) (fun _ => ?_))
  repeat refine zz ?_
  refine o_call rfl rfl rfl (toItemS_ok hL hbL) ?_
  rintro vcL w7 ⟨kw7, fcL, cL, gcL⟩
  have skw7 := kw7.size_le
  replace hL := hL.keep kw7
  replace hk := hk.keep kw7
  replace xw := xw.keep kw7
  replace bL := bL.keep kw7
  replace gbL := gbL.keep kw7
  replace xg := xg.keep kw7
  replace gxg := gxg.keep kw7
  have locL := fun b hb => gcL.ge (b := b) hb
  have upcL := cL.dom
  repeat refine zz ?_
  refine o_call rfl rfl rfl (eqItemS_ok bL cL) ?_
  rintro _ w8 ⟨rfl, kw8⟩
  have skw8 := kw8.size_le
  replace hL := hL.keep kw8
  replace hk := hk.keep kw8
  replace xw := xw.keep kw8
  replace bL := bL.keep kw8
  replace gbL := gbL.keep kw8
  replace xg := xg.keep kw8
  replace gxg := gxg.keep kw8
  repeat refine zz ?_
  try (refine W_cond rfl (fun hc => by exfalso; first | (simp at hc; done) | (simp at hc; omega) | omega) (fun _ => ?_))
  repeat refine zz ?_
  refine o_call rfl rfl rfl (markItemS_ok bL gbL (by omega) (by omega)) ?_
  rintro _ w9 ⟨rfl, bL, gbL, qw9⟩
  have sw9 := qw9.size
  replace hL := hL.wrs qw9 (fun b h1 h2 => by have := upL b h1; have := lobL b h2; have := upbL b h2; omega)
  replace hk := qw9.keep hk (fun b hb => by have := lobL b hb; omega)
  replace xw := xw.wrs qw9 (fun b h1 h2 => by have := upxw b h1; have := lobL b h2; have := upbL b h2; omega)
  replace xg := xg.wrs qw9 (fun b h1 h2 => by have := loxg b h1; have := upxg b h1; have := lobL b h2; have := upbL b h2; omega)
  replace gxg := gxg.wrs qw9 (fun b h1 h2 => by have := loxg b h1; have := upxg b h1; have := lobL b h2; have := upbL b h2; omega)
  repeat refine zz ?_
  try (refine WL_part rfl rfl (fun hc => by exfalso; first | (simp at hc; done) | (simp at hc; omega) | omega) (fun _ => ?_))
  repeat refine zz ?_
  refine o_call rfl rfl rfl (eqIntS_ok xg xw) ?_
  rintro _ w10 ⟨rfl, kw10⟩
  have skw10 := kw10.size_le
  replace hL := hL.keep kw10
  replace hk := hk.keep kw10
  replace xw := xw.keep kw10
  replace xg := xg.keep kw10
  replace gxg := gxg.keep kw10
  replace bL := bL.keep kw10
  replace gbL := gbL.keep kw10
  repeat refine zz ?_
  try (refine WL_part rfl rfl (fun hc => by exfalso; first | (simp at hc; done) | (simp at hc; omega) | omega) (fun _ => ?_))
  repeat refine zz ?_
  try (refine W_cond rfl (fun hc => by exfalso; first | (simp at hc; done) | (simp at hc; omega) | omega) (fun _ => ?_))
  repeat refine zz ?_
  have hm : ∀ k : Int, 0 ≤ k → heldI k (iota k (((smallest L Num Den).getD [])).length) = _ := fun k hk => heldI_iota k _
  refine o_call rfl rfl rfl (markIntS_ok xg gxg (by omega) (by have := smallest_len (L := L) (p := Num) (q := Den); omega)) ?_
  rintro _ w11 ⟨rfl, xg, gxg, qw11⟩
  have sw11 := qw11.size
  replace hL := hL.wrs qw11 (fun b h1 h2 => by have := upL b h1; have := loxg b h2; have := upxg b h2; omega)
  replace hk := qw11.keep hk (fun b hb => by have := loxg b hb; omega)
  replace xw := xw.wrs qw11 (fun b h1 h2 => by have := upxw b h1; have := loxg b h2; have := upxg b h2; omega)
  replace bL := bL.wrs qw11 (fun b h1 h2 => by have := lobL b h1; have := upbL b h1; have := loxg b h2; have := upxg b h2; omega)
  replace gbL := gbL.wrs qw11 (fun b h1 h2 => by have := lobL b h1; have := upbL b h1; have := loxg b h2; have := upxg b h2; omega)
  repeat refine zz ?_
  refine o_call rfl rfl rfl (heldIntS_ok xg (by omega) (by rw [iota_len]; have := smallest_len (L := L) (p := Num) (q := Den); omega)) ?_
  rintro _ _ ⟨rfl, rfl⟩
  rw [hm 1 (by omega)]
  repeat refine zz ?_
  try (refine W_cond rfl (fun hc => by exfalso; first | (simp at hc; done) | (simp at hc; omega) | omega) (fun _ => ?_))
  repeat refine zz ?_
  try (refine W_cond rfl (fun hc => by exfalso; first | (simp at hc; done) | (simp at hc; omega) | omega) (fun _ => ?_))
  repeat refine zz ?_
  refine o_call rfl rfl rfl (toItemS_ok hL hbL) ?_
  rintro vdL w12 ⟨kw12, fdL, dL, gdL⟩
  have skw12 := kw12.size_le
  replace hL := hL.keep kw12
  replace hk := hk.keep kw12
  replace xw := xw.keep kw12
  replace xg := xg.keep kw12
  replace gxg := gxg.keep kw12
  have lodL := fun b hb => gdL.ge (b := b) hb
  have updL := dL.dom
  repeat refine zz ?_
  refine o_call rfl rfl rfl (impl_SmallestSet_ok dL Num Den) ?_
  rintro _ w13 ⟨kw13, vxh, fxh, rfl, xh, gxh⟩
  have skw13 := kw13.size_le
  replace hL := hL.keep kw13
  replace hk := hk.keep kw13
  replace xw := xw.keep kw13
  replace xg := xg.keep kw13
  replace gxg := gxg.keep kw13
  replace dL := dL.keep kw13
  have loxh := fun b hb => gxh.ge (b := b) hb
  have upxh := xh.dom
  repeat refine zz ?_
  refine o_call rfl rfl rfl (eqIntS_ok xh xw) ?_
  rintro _ w14 ⟨rfl, kw14⟩
  have skw14 := kw14.size_le
  replace hL := hL.keep kw14
  replace hk := hk.keep kw14
  replace xw := xw.keep kw14
  replace xg := xg.keep kw14
  replace gxg := gxg.keep kw14
  replace xh := xh.keep kw14
  repeat refine zz ?_
  try (refine WL_part rfl rfl (fun hc => by exfalso; first | (simp at hc; done) | (simp at hc; omega) | omega) (fun _ => ?_))
  repeat refine zz ?_
  try (refine W_cond rfl (fun hc => by exfalso; first | (simp at hc; done) | (simp at hc; omega) | omega) (fun _ => ?_))
  repeat refine zz ?_
  refine o_call rfl rfl rfl (heldIntS_ok xg (by omega) (by rw [iota_len]; have := smallest_len (L := L) (p := Num) (q := Den); omega)) ?_
  rintro _ _ ⟨rfl, rfl⟩
  rw [hm 1 (by omega)]
  repeat refine zz ?_
  try (refine W_cond rfl (fun hc => by exfalso; first | (simp at hc; done) | (simp at hc; omega) | omega) (fun _ => ?_))
  repeat refine zz ?_
  try (refine W_cond rfl (fun hc => by exfalso; first | (simp at hc; done) | (simp at hc; omega) | omega) (fun _ => ?_))
  repeat refine zz ?_
  exact ret1 rfl rfl ⟨rfl, hk⟩
end Go.E
