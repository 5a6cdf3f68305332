/-
  Contracts: the small helpers of the great laws. Conditions: as stated.
-/
import Derived.Test.YtomkdoppjimhoaaRa
import Derived.Test.YtomkdoppjimhoaaGd
set_option linter.unusedVariables false
set_option linter.unusedSimpArgs false
namespace Go.E
open Go Go.RowKit Go.Proofs
attribute [local irreducible] W WL WD WE thenE inE retQ PureOp Keep Cell Cells Blk Sl Rows Own Src Fresh

theorem big_ok {w : World} {v : Value} {xs : List Int} {fp : List Nat} (hx : Sl u8R w v xs fp) : Run Try.prog 20 [v] w (fun r w' => r = .bool (decide ((1048576 : Int) < xs.length)) ∧ w = w') := by
  obtain ⟨A, n, c, rfl, hnx⟩ := hx.split
  refine Run_intro Try.func20 (by unfold CallOk; kernel_rfl) rfl Try.ntmps20 (Nat.le_of_ble_eq_true rfl) ?_
  simp only [penv, Nat.reduceAdd, Nat.zero_add]
  repeat refine zz ?_
  exact ret1 rfl rfl ⟨by rw [hnx], rfl⟩

end Go.E
