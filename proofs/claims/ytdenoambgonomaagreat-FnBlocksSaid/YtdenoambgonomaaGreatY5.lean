/-
  Contracts: lists of items without some, layers. Conditions: as stated.
-/
import Derived.Test.YtdenoambgonomaaGreatX1
import Derived.Test.YtdenoambgonomaaGreatL9
import Derived.Test.YtdenoambgonomaaGreatAg
set_option linter.unusedVariables false
set_option linter.unusedSimpArgs false
namespace Go.E
open Go Go.RowKit Go.Proofs
def only (ids : List Int) (q : Bool) (L : List Itm) : List Itm := L.filter fun x => hasI ids x.id == q
theorem only_step {ids : List Int} {q : Bool} {L : List Itm} {k : Nat} (h : k < L.length) : only ids q (L.take (k + 1)) = only ids q (L.take k) ++ (if hasI ids (gi L (k : Int)).id == q then [gi L (k : Int)] else []) := by
  rw [take_gi h, only, List.filter_append, List.filter_cons, List.filter_nil]; rfl
theorem only_t {ids : List Int} {q : Bool} {L : List Itm} {k : Nat} (h : k < L.length) (hd : (hasI ids (gi L (k : Int)).id == q) = true) : only ids q (L.take (k + 1)) = only ids q (L.take k) ++ [gi L (k : Int)] := by rw [only_step h, if_pos hd]
theorem only_f {ids : List Int} {q : Bool} {L : List Itm} {k : Nat} (h : k < L.length) (hd : (hasI ids (gi L (k : Int)).id == q) = false) : only ids q (L.take (k + 1)) = only ids q (L.take k) := by rw [only_step h, if_neg (by simp [hd]), List.append_nil]
theorem only_len (ids : List Int) (q : Bool) (L : List Itm) : (only ids q L).length ≤ L.length := List.length_filter_le _ _
theorem only_nil (ids : List Int) (q : Bool) : only ids q [] = [] := rfl
attribute [local irreducible] W WL WD WE thenE inE retQ PureOp Keep Cell Cells Blk Sl Rows Own Src Fresh
attribute [local irreducible] only hasI

end Go.E
