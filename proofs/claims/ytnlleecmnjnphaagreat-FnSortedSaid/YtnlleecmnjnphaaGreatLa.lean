/-
  Contracts of the laws' helpers on slices of numbers. Conditions: as stated.
-/
import Derived.Test.YtnlleecmnjnphaaGreatGk
import Derived.Test.YtnlleecmnjnphaaGreatPure
import Derived.Test.YtnlleecmnjnphaaGreatTys
set_option linter.unusedVariables false
set_option linter.unusedSimpArgs false
namespace Go.E
open Go Go.RowKit Go.Proofs
attribute [local irreducible] W WL WQ WD thenE inE retQ PureOp Keep Cell Cells Blk Sl Rows Own Src

end Go.E
