/-
  Contract: rewriting at a place, by the reference. Conditions: as stated.
-/
import Derived.Test.YtomkdoppjimhoaaSb
set_option linter.unusedVariables false
set_option linter.unusedSimpArgs false
namespace Go.E
open Go Go.RowKit Go.Proofs
theorem ap_off {E : List Nod} {rule at_ : Int} (h : placeB E at_ = false) : applyR E rule at_ = none := by
  unfold applyR; rw [if_neg (by simp [h])]
attribute [local irreducible] W WL WD WE thenE inE retQ PureOp Keep Cell Cells Blk Sl Rows Own Src Fresh
attribute [local irreducible] isExpr applyR

set_option maxHeartbeats 1000000 in
theorem spec_ApplyRule_ok {w : World} {v : Value} {E : List Nod} {fp : List Nat} (hx : Sl nodeR w v E fp) (hn : E.length + totN E ≤ 1048576) (rule at_ : Int) :
    Run Try.prog 23 [v, .int .i64 rule, .int .i64 at_] w (fun r w' => Keep w w' ∧ ∃ u fi, r = .tuple #[u, .bool (applyR E rule at_).isSome] ∧ OwnF nodeR w' w.heap.size 74 u ((applyR E rule at_).getD E) fi) := by
  obtain ⟨A, n, c, rfl, hnx⟩ := hx.split
  refine Run_intro Try.func23 (by unfold CallOk; kernel_rfl) rfl Try.ntmps23 (Nat.le_of_ble_eq_true rfl) ?_
  simp only [penv, Nat.reduceAdd, Nat.zero_add]
  repeat refine zz ?_
  refine o_call rfl rfl rfl (spec_IsExpression_ok hx hn) ?_
  rintro _ w1 ⟨rfl, hk⟩
  repeat refine zz ?_
  refine WL_part rfl rfl (fun h1 => ?_) (fun h1 => ?_)
  · simp at h1
    repeat refine zz ?_
    have hoff : applyR E rule at_ = none := ap_off (by unfold placeB; first | (rw [h1]; rfl) | (rw [h2]; simp))
    rw [hoff]
    repeat refine zz ?_
    refine o_call rfl rfl rfl (l5Copy_own (hx.keep hk) hn) ?_
    rintro vc wc ⟨kc, fc, hoc⟩
    repeat refine zz ?_
    exact ret2 rfl rfl rfl ⟨hk.keep kc, _, fc, rfl, hoc.low (by have := hk.size_le; omega)⟩
  simp at h1
  repeat refine zz ?_
  refine o_call rfl rfl rfl (l1In_ok at_ 0 ((n : Int) - 1) _) ?_
  rintro _ _ ⟨rfl, rfl⟩
  repeat refine zz ?_
  refine W_cond rfl (fun h2 => ?_) (fun h2 => ?_)
  · simp at h2
    rw [hnx] at h2
    have hoff : applyR E rule at_ = none := ap_off (by unfold placeB; first | (rw [h1]; rfl) | (rw [h2]; simp))
    rw [hoff]
    repeat refine zz ?_
    refine o_call rfl rfl rfl (l5Copy_own (hx.keep hk) hn) ?_
    rintro vc wc ⟨kc, fc, hoc⟩
    repeat refine zz ?_
    exact ret2 rfl rfl rfl ⟨hk.keep kc, _, fc, rfl, hoc.low (by have := hk.size_le; omega)⟩
  simp at h2
  rw [hnx] at h2
  have hpl : placeB E at_ = true := by unfold placeB; rw [h1, h2]; rfl
  obtain ⟨_, p, rfl, hp⟩ := placeB_ok hpl
  repeat refine zz ?_
  refine o_call rfl rfl rfl (l6Rule_ok (hx.keep hk) h1 hp rule) ?_
  rintro _ w2 ⟨k2, u, b, X, f, rfl, hs, hsm, hyes, hno⟩
  replace hk := hk.keep k2
  repeat refine zz ?_
  cases b with
  | true =>
    rw [hyes rfl]
    repeat refine zz ?_
    refine o_call rfl rfl rfl (l5Copy_own hs (by omega)) ?_
    rintro vc wc ⟨kc, fc, hoc⟩
    repeat refine zz ?_
    exact ret2 rfl rfl rfl ⟨hk.keep kc, _, fc, rfl, hoc.low (by have := hk.size_le; omega)⟩
  | false =>
    rw [hno rfl]
    repeat refine zz ?_
    refine o_call rfl rfl rfl (l5Copy_own (hx.keep hk) hn) ?_
    rintro vc wc ⟨kc, fc, hoc⟩
    repeat refine zz ?_
    exact ret2 rfl rfl rfl ⟨hk.keep kc, _, fc, rfl, hoc.low (by have := hk.size_le; omega)⟩
end Go.E
