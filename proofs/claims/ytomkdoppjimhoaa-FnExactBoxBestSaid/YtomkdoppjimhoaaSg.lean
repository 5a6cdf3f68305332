/-
  Contracts: the items' numbers in the order of a field. Conditions: as stated.
-/
import Derived.Test.YtomkdoppjimhoaaSf
import Derived.Test.YtomkdoppjimhoaaAg
set_option linter.unusedVariables false
set_option linter.unusedSimpArgs false
namespace Go.E
open Go Go.RowKit Go.Proofs
def sortedIds (L : List Itm) (field : Int) : List Int := if areItems L && inR field 0 2 then idsOf (sortP (fval field) L) else []
theorem sortedIds_len (L : List Itm) (field : Int) : (sortedIds L field).length ≤ 16 := by
  unfold sortedIds
  split
  · rename_i h
    simp only [Bool.and_eq_true] at h
    rw [idsOf_len, sortP_len]; exact (areItems_each h.1).2
  · simp
theorem inR_iff {x lo hi : Int} : inR x lo hi = true ↔ lo ≤ x ∧ x ≤ hi := by simp [inR]
theorem ids_order (L : List Itm) (v : Itm → Int) : (sortP (fun i => v (gi L i)) (iota 0 L.length)).map (fun i => (gi L i).id) = idsOf (sortP v L) := by
  rw [idsOf, ← order_items, List.map_map]; rfl
attribute [local irreducible] W WL WD WE thenE inE retQ PureOp Keep Cell Cells Blk Sl Rows Own Src Fresh
attribute [local irreducible] areItems sortP

end Go.E
