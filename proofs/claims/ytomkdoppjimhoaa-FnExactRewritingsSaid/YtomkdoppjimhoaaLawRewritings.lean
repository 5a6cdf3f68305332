/-
  'FnExactRewritings' holds for every input: it returns true, and the inputs read as they did. Conditions: none.
-/
import Derived.Test.YtomkdoppjimhoaaNg
set_option linter.unusedVariables false
set_option linter.unusedSimpArgs false
namespace Go.E
open Go Go.RowKit Go.Proofs
attribute [local irreducible] W WL WD WE thenE inE retQ PureOp Keep Cell Cells Blk Sl Rows Own Src Fresh

set_option maxHeartbeats 2000000 in
theorem law_Rewritings {w : World} {vE : Value} {E : List Nod} {pE : List Nat} (hE : Sl nodeR w vE E pE) :
    Run Try.prog 4 [vE] w (fun r w' => r = .bool true ∧ Keep w w') := by
  have upE := hE.dom
  have hk := Keep.refl w
  refine Run_intro Try.func4 (by unfold CallOk; kernel_rfl) rfl Try.ntmps4 (Nat.le_of_ble_eq_true rfl) ?_
  simp only [penv, Nat.reduceAdd, Nat.zero_add]
  repeat refine zz ?_
  refine o_call rfl rfl rfl (szNodeS_ok hE (by omega) (by omega)) ?_
  rintro _ w1 ⟨rfl, kw1⟩
  have skw1 := kw1.size_le
  replace hE := hE.keep kw1
  replace hk := hk.keep kw1
  repeat refine zz ?_
  refine W_cond rfl (fun hcE => ?_) (fun hcE => ?_)
  · repeat refine zz ?_
    exact ret1 rfl rfl ⟨rfl, hk⟩
  simp only [decide_eq_false_iff_not] at hcE
  have hlE := szN_bd hcE (by omega)
  have hbE : E.length + totN E ≤ 1048576 := by have := szN_ge hcE; omega
  repeat refine zz ?_
  have hqE := nCnt_le E
  refine o_call rfl rfl rfl (toNodeS_ok hE hbE) ?_
  rintro vaE w2 ⟨kw2, faE, aE, gaE⟩
  have skw2 := kw2.size_le
  replace hE := hE.keep kw2
  replace hk := hk.keep kw2
  have loaE := fun b hb => gaE.ge (b := b) hb
  have upaE := aE.dom
  repeat refine zz ?_
  refine o_call rfl rfl rfl (spec_Rewritings_ok aE hbE) ?_
  rintro vxw w3 ⟨kw3, fxw, xw, gxw⟩
  have skw3 := kw3.size_le
  replace hE := hE.keep kw3
  replace hk := hk.keep kw3
  replace aE := aE.keep kw3
  have loxw := fun b hb => gxw.ge (b := b) hb
  have upxw := xw.dom
  repeat refine zz ?_
  refine o_call rfl rfl rfl (toNodeS_ok hE hbE) ?_
  rintro vbE w4 ⟨kw4, fbE, bE, gbE⟩
  have skw4 := kw4.size_le
  replace hE := hE.keep kw4
  replace hk := hk.keep kw4
  replace xw := xw.keep kw4
  have lobE := fun b hb => gbE.ge (b := b) hb
  have upbE := bE.dom
  repeat refine zz ?_
  refine o_call rfl rfl rfl (impl_Rewritings_ok bE hbE) ?_
  rintro vxg w5 ⟨kw5, fxg, xg, gxg⟩
  have skw5 := kw5.size_le
  replace hE := hE.keep kw5
  replace hk := hk.keep kw5
  replace xw := xw.keep kw5
  replace bE := bE.keep kw5
  replace gbE := gbE.keep kw5
  have loxg := fun b hb => gxg.ge (b := b) hb
  have upxg := xg.dom
  repeat refine zz ?_
  refine o_call rfl rfl rfl (eqRewritingS_ok xg xw) ?_
  rintro _ w6 ⟨rfl, kw6⟩
  have skw6 := kw6.size_le
  replace hE := hE.keep kw6
  replace hk := hk.keep kw6
  replace xw := xw.keep kw6
  replace bE := bE.keep kw6
  replace gbE := gbE.keep kw6
  replace xg := xg.keep kw6
  replace gxg := gxg.keep kw6
  repeat refine zz ?_
  try (refine W_cond rfl (fun hc => by exfalso; first | (simp at hc; done) | (simp at hc; omega) | omega) (fun _ => ?_))
  repeat refine zz ?_
  refine o_call rfl rfl rfl (toNodeS_ok hE hbE) ?_
  rintro vcE w7 ⟨kw7, fcE, cE, gcE⟩
  have skw7 := kw7.size_le
  replace hE := hE.keep kw7
  replace hk := hk.keep kw7
  replace xw := xw.keep kw7
  replace bE := bE.keep kw7
  replace gbE := gbE.keep kw7
  replace xg := xg.keep kw7
  replace gxg := gxg.keep kw7
  have locE := fun b hb => gcE.ge (b := b) hb
  have upcE := cE.dom
  repeat refine zz ?_
  refine o_call rfl rfl rfl (eqNodeS_ok bE cE) ?_
  rintro _ w8 ⟨rfl, kw8⟩
  have skw8 := kw8.size_le
  replace hE := hE.keep kw8
  replace hk := hk.keep kw8
  replace xw := xw.keep kw8
  replace bE := bE.keep kw8
  replace gbE := gbE.keep kw8
  replace xg := xg.keep kw8
  replace gxg := gxg.keep kw8
  repeat refine zz ?_
  try (refine W_cond rfl (fun hc => by exfalso; first | (simp at hc; done) | (simp at hc; omega) | omega) (fun _ => ?_))
  repeat refine zz ?_
  refine o_call rfl rfl rfl (markNodeS_ok bE gbE (by omega) (by have := nCnt_le E; omega)) ?_
  rintro _ w9 ⟨rfl, bE, gbE, qw9⟩
  have sw9 := qw9.size
  replace hE := hE.wrs qw9 (fun b h1 h2 => by have := upE b h1; have := lobE b h2; have := upbE b h2; omega)
  replace hk := qw9.keep hk (fun b hb => by have := lobE b hb; omega)
  replace xw := xw.wrs qw9 (fun b h1 h2 => by have := upxw b h1; have := lobE b h2; have := upbE b h2; omega)
  replace xg := xg.wrs qw9 (fun b h1 h2 => by have := loxg b h1; have := upxg b h1; have := lobE b h2; have := upbE b h2; omega)
  replace gxg := gxg.wrs qw9 (fun b h1 h2 => by have := loxg b h1; have := upxg b h1; have := lobE b h2; have := upbE b h2; omega)
  repeat refine zz ?_
  try (refine WL_part rfl rfl (fun hc => by exfalso; first | (simp at hc; done) | (simp at hc; omega) | omega) (fun _ => ?_))
  repeat refine zz ?_
  refine o_call rfl rfl rfl (eqRewritingS_ok xg xw) ?_
  rintro _ w10 ⟨rfl, kw10⟩
  have skw10 := kw10.size_le
  replace hE := hE.keep kw10
  replace hk := hk.keep kw10
  replace xw := xw.keep kw10
  replace xg := xg.keep kw10
  replace gxg := gxg.keep kw10
  replace bE := bE.keep kw10
  replace gbE := gbE.keep kw10
  repeat refine zz ?_
  try (refine W_cond rfl (fun hc => by exfalso; first | (simp at hc; done) | (simp at hc; omega) | omega) (fun _ => ?_))
  repeat refine zz ?_
  refine o_call rfl rfl rfl (markRewritingS_ok xg gxg (by omega) (by have := rewr_bd (E := E); omega)) ?_
  rintro _ w11 ⟨rfl, xg, gxg, qw11⟩
  have sw11 := qw11.size
  replace hE := hE.wrs qw11 (fun b h1 h2 => by have := upE b h1; have := loxg b h2; have := upxg b h2; omega)
  replace hk := qw11.keep hk (fun b hb => by have := loxg b hb; omega)
  replace xw := xw.wrs qw11 (fun b h1 h2 => by have := upxw b h1; have := loxg b h2; have := upxg b h2; omega)
  replace bE := bE.wrs qw11 (fun b h1 h2 => by have := lobE b h1; have := upbE b h1; have := loxg b h2; have := upxg b h2; omega)
  replace gbE := gbE.wrs qw11 (fun b h1 h2 => by have := lobE b h1; have := upbE b h1; have := loxg b h2; have := upxg b h2; omega)
  repeat refine zz ?_
  refine o_call rfl rfl rfl (heldRewritingS_ok xg (by omega) (by have := rewr_bd (E := E); omega)) ?_
  rintro _ _ ⟨rfl, rfl⟩
  repeat refine zz ?_
  try (refine W_cond rfl (fun hc => by exfalso; first | (simp at hc; done) | (simp at hc; omega) | omega) (fun _ => ?_))
  repeat refine zz ?_
  try (refine W_cond rfl (fun hc => by exfalso; first | (simp at hc; done) | (simp at hc; omega) | omega) (fun _ => ?_))
  repeat refine zz ?_
  refine o_call rfl rfl rfl (toNodeS_ok hE hbE) ?_
  rintro vdE w12 ⟨kw12, fdE, dE, gdE⟩
  have skw12 := kw12.size_le
  replace hE := hE.keep kw12
  replace hk := hk.keep kw12
  replace xw := xw.keep kw12
  replace xg := xg.keep kw12
  replace gxg := gxg.keep kw12
  have lodE := fun b hb => gdE.ge (b := b) hb
  have updE := dE.dom
  repeat refine zz ?_
  refine o_call rfl rfl rfl (impl_Rewritings_ok dE hbE) ?_
  rintro vxh w13 ⟨kw13, fxh, xh, gxh⟩
  have skw13 := kw13.size_le
  replace hE := hE.keep kw13
  replace hk := hk.keep kw13
  replace xw := xw.keep kw13
  replace xg := xg.keep kw13
  replace gxg := gxg.keep kw13
  replace dE := dE.keep kw13
  have loxh := fun b hb => gxh.ge (b := b) hb
  have upxh := xh.dom
  repeat refine zz ?_
  refine o_call rfl rfl rfl (eqRewritingS_ok xh xw) ?_
  rintro _ w14 ⟨rfl, kw14⟩
  have skw14 := kw14.size_le
  replace hE := hE.keep kw14
  replace hk := hk.keep kw14
  replace xw := xw.keep kw14
  replace xg := xg.keep kw14
  replace gxg := gxg.keep kw14
  replace xh := xh.keep kw14
  repeat refine zz ?_
  try (refine W_cond rfl (fun hc => by exfalso; first | (simp at hc; done) | (simp at hc; omega) | omega) (fun _ => ?_))
  repeat refine zz ?_
  refine o_call rfl rfl rfl (heldRewritingS_ok xg (by omega) (by have := rewr_bd (E := E); omega)) ?_
  rintro _ _ ⟨rfl, rfl⟩
  repeat refine zz ?_
  try (refine W_cond rfl (fun hc => by exfalso; first | (simp at hc; done) | (simp at hc; omega) | omega) (fun _ => ?_))
  repeat refine zz ?_
  try (refine W_cond rfl (fun hc => by exfalso; first | (simp at hc; done) | (simp at hc; omega) | omega) (fun _ => ?_))
  repeat refine zz ?_
  exact ret1 rfl rfl ⟨rfl, hk⟩
end Go.E
