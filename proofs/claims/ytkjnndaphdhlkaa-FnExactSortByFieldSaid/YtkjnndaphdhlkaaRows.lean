/-
  No cell of these rows narrows 'for every input' (looked for: loops, veiled, ifaces, maps, wideKeys, modest, calm, conditions, laid).
  DERIVED. THE GIVEN ROWS OF THIS SEAT. 11 by the template 'for every input the law returns true; each argument reads behind the call as it read before'; 0 by the template 'total and deterministic' (their statements: YtkjnndaphdhlkaaTotals.lean).
  GIVEN WITH THE SEED: the statements are not yours to turn. If you find one false, say at which input.
  Laid BY PROGRAM, IN A SANDBOX (cutbox-rows.mjs): the forced cells as the released guide's own fill.sh prints them over the translation 173983e0df346706… (all of the seat's roots in one cut). By AI agents, Wed Nov 11 2026. No macro, syntax, notation, axiom, sorry.
-/
import Derived.Test.YtkjnndaphdhlkaaChecked
import GoSem.Claim
import GoSem.ClaimJoined
import GoSem.ClaimMapViews
import Derived.JoinedTies
import Derived.KernelRfl
namespace Go.Proofs.Ytkjnndaphdhlkaa
/- THE CELL 'sum', in the pinned program and in every row, IS THE sha256 OF THE DUMP (.gsa) THAT YtkjnndaphdhlkaaProg.lean LOADS. Nothing in Lean hashes anything: it is a label: what it is worth is what the hold of that sum in a sandbox is worth. -/
noncomputable def Try.pinned : Pinned := { name := "ytkjnndaphdhlkaa", sum := "173983e0df34670687f127a9da4c9fd721268792721259e56f4857da42d28333", checked := Try.checked }
namespace Rows
def none {H : Type} : Left H := { results := [], args := [] }

/-- 'laws.FnExactIsFieldList': WHATEVER THE INPUT: true; the input reads as it did. -/
def fnExactIsFieldListSpec : ChangeSpec := { name := "fnExactIsFieldList", fn := fun _ => fun
  | [d] => { results := [.lit (.bool true)], args := [d] }
  | _ => none }
def fnExactIsFieldListRow : OpenClaim := { program := "ytkjnndaphdhlkaa", sum := "173983e0df34670687f127a9da4c9fd721268792721259e56f4857da42d28333", func := "loop.example/g01987/laws.FnExactIsFieldList", spec := "fnExactIsFieldList", apart := false }
def FnExactIsFieldListSaid : Prop := fnExactIsFieldListRow.holds Try.pinned (OpenSpec.ofChange fnExactIsFieldListSpec)

/-- ITS FALSE NEIGHBOUR: 'it returns false'. Refute it at one input. -/
def fnExactIsFieldListWrong : ChangeSpec := { name := "fnExactIsFieldList", fn := fun _ => fun
  | [d] => { results := [.lit (.bool false)], args := [d] }
  | _ => none }
def FnExactIsFieldListWrongFalsely : Prop := fnExactIsFieldListRow.holds Try.pinned (OpenSpec.ofChange fnExactIsFieldListWrong)

/-- 'laws.FnExactWeightLists': WHATEVER THE INPUT: true; the input reads as it did. -/
def fnExactWeightListsSpec : ChangeSpec := { name := "fnExactWeightLists", fn := fun _ => fun
  | [] => { results := [.lit (.bool true)], args := [] }
  | _ => none }
def fnExactWeightListsRow : OpenClaim := { program := "ytkjnndaphdhlkaa", sum := "173983e0df34670687f127a9da4c9fd721268792721259e56f4857da42d28333", func := "loop.example/g01987/laws.FnExactWeightLists", spec := "fnExactWeightLists", apart := false }
def FnExactWeightListsSaid : Prop := fnExactWeightListsRow.holds Try.pinned (OpenSpec.ofChange fnExactWeightListsSpec)

/-- ITS FALSE NEIGHBOUR: 'it returns false'. Refute it at one input. -/
def fnExactWeightListsWrong : ChangeSpec := { name := "fnExactWeightLists", fn := fun _ => fun
  | [] => { results := [.lit (.bool false)], args := [] }
  | _ => none }
def FnExactWeightListsWrongFalsely : Prop := fnExactWeightListsRow.holds Try.pinned (OpenSpec.ofChange fnExactWeightListsWrong)

/-- 'laws.FnExactUtilityOf': WHATEVER THE INPUT: true; the input reads as it did. -/
def fnExactUtilityOfSpec : ChangeSpec := { name := "fnExactUtilityOf", fn := fun _ => fun
  | [d1, d2] => { results := [.lit (.bool true)], args := [d1, d2] }
  | _ => none }
def fnExactUtilityOfRow : OpenClaim := { program := "ytkjnndaphdhlkaa", sum := "173983e0df34670687f127a9da4c9fd721268792721259e56f4857da42d28333", func := "loop.example/g01987/laws.FnExactUtilityOf", spec := "fnExactUtilityOf", apart := false }
def FnExactUtilityOfSaid : Prop := fnExactUtilityOfRow.holds Try.pinned (OpenSpec.ofChange fnExactUtilityOfSpec)

/-- ITS FALSE NEIGHBOUR: 'it returns false'. Refute it at one input. -/
def fnExactUtilityOfWrong : ChangeSpec := { name := "fnExactUtilityOf", fn := fun _ => fun
  | [d1, d2] => { results := [.lit (.bool false)], args := [d1, d2] }
  | _ => none }
def FnExactUtilityOfWrongFalsely : Prop := fnExactUtilityOfRow.holds Try.pinned (OpenSpec.ofChange fnExactUtilityOfWrong)

/-- 'laws.FnExactHolesOf': WHATEVER THE INPUT: true; the input reads as it did. -/
def fnExactHolesOfSpec : ChangeSpec := { name := "fnExactHolesOf", fn := fun _ => fun
  | [d] => { results := [.lit (.bool true)], args := [d] }
  | _ => none }
def fnExactHolesOfRow : OpenClaim := { program := "ytkjnndaphdhlkaa", sum := "173983e0df34670687f127a9da4c9fd721268792721259e56f4857da42d28333", func := "loop.example/g01987/laws.FnExactHolesOf", spec := "fnExactHolesOf", apart := false }
def FnExactHolesOfSaid : Prop := fnExactHolesOfRow.holds Try.pinned (OpenSpec.ofChange fnExactHolesOfSpec)

/-- ITS FALSE NEIGHBOUR: 'it returns false'. Refute it at one input. -/
def fnExactHolesOfWrong : ChangeSpec := { name := "fnExactHolesOf", fn := fun _ => fun
  | [d] => { results := [.lit (.bool false)], args := [d] }
  | _ => none }
def FnExactHolesOfWrongFalsely : Prop := fnExactHolesOfRow.holds Try.pinned (OpenSpec.ofChange fnExactHolesOfWrong)

/-- 'laws.FnExactBestUtility': WHATEVER THE INPUT: true; the input reads as it did. -/
def fnExactBestUtilitySpec : ChangeSpec := { name := "fnExactBestUtility", fn := fun _ => fun
  | [d1, d2, d3] => { results := [.lit (.bool true)], args := [d1, d2, d3] }
  | _ => none }
def fnExactBestUtilityRow : OpenClaim := { program := "ytkjnndaphdhlkaa", sum := "173983e0df34670687f127a9da4c9fd721268792721259e56f4857da42d28333", func := "loop.example/g01987/laws.FnExactBestUtility", spec := "fnExactBestUtility", apart := false }
def FnExactBestUtilitySaid : Prop := fnExactBestUtilityRow.holds Try.pinned (OpenSpec.ofChange fnExactBestUtilitySpec)

/-- ITS FALSE NEIGHBOUR: 'it returns false'. Refute it at one input. -/
def fnExactBestUtilityWrong : ChangeSpec := { name := "fnExactBestUtility", fn := fun _ => fun
  | [d1, d2, d3] => { results := [.lit (.bool false)], args := [d1, d2, d3] }
  | _ => none }
def FnExactBestUtilityWrongFalsely : Prop := fnExactBestUtilityRow.holds Try.pinned (OpenSpec.ofChange fnExactBestUtilityWrong)

/-- 'laws.FnRegrets': WHATEVER THE INPUT: true; the input reads as it did. -/
def fnRegretsSpec : ChangeSpec := { name := "fnRegrets", fn := fun _ => fun
  | [d] => { results := [.lit (.bool true)], args := [d] }
  | _ => none }
def fnRegretsRow : OpenClaim := { program := "ytkjnndaphdhlkaa", sum := "173983e0df34670687f127a9da4c9fd721268792721259e56f4857da42d28333", func := "loop.example/g01987/laws.FnRegrets", spec := "fnRegrets", unfollowed := true, recurses := true, apart := false }
def FnRegretsSaid : Prop := fnRegretsRow.holds Try.pinned (OpenSpec.ofChange fnRegretsSpec)

/-- ITS FALSE NEIGHBOUR: 'it returns false'. Refute it at one input. -/
def fnRegretsWrong : ChangeSpec := { name := "fnRegrets", fn := fun _ => fun
  | [d] => { results := [.lit (.bool false)], args := [d] }
  | _ => none }
def FnRegretsWrongFalsely : Prop := fnRegretsRow.holds Try.pinned (OpenSpec.ofChange fnRegretsWrong)

/-- 'laws.FnExactLowExpression': WHATEVER THE INPUT: true; the input reads as it did. -/
def fnExactLowExpressionSpec : ChangeSpec := { name := "fnExactLowExpression", fn := fun _ => fun
  | [d] => { results := [.lit (.bool true)], args := [d] }
  | _ => none }
def fnExactLowExpressionRow : OpenClaim := { program := "ytkjnndaphdhlkaa", sum := "173983e0df34670687f127a9da4c9fd721268792721259e56f4857da42d28333", func := "loop.example/g01987/laws.FnExactLowExpression", spec := "fnExactLowExpression", apart := false }
def FnExactLowExpressionSaid : Prop := fnExactLowExpressionRow.holds Try.pinned (OpenSpec.ofChange fnExactLowExpressionSpec)

/-- ITS FALSE NEIGHBOUR: 'it returns false'. Refute it at one input. -/
def fnExactLowExpressionWrong : ChangeSpec := { name := "fnExactLowExpression", fn := fun _ => fun
  | [d] => { results := [.lit (.bool false)], args := [d] }
  | _ => none }
def FnExactLowExpressionWrongFalsely : Prop := fnExactLowExpressionRow.holds Try.pinned (OpenSpec.ofChange fnExactLowExpressionWrong)

/-- 'laws.FnExactSortByField': WHATEVER THE INPUT: true; the input reads as it did. -/
def fnExactSortByFieldSpec : ChangeSpec := { name := "fnExactSortByField", fn := fun _ => fun
  | [d1, d2] => { results := [.lit (.bool true)], args := [d1, d2] }
  | _ => none }
def fnExactSortByFieldRow : OpenClaim := { program := "ytkjnndaphdhlkaa", sum := "173983e0df34670687f127a9da4c9fd721268792721259e56f4857da42d28333", func := "loop.example/g01987/laws.FnExactSortByField", spec := "fnExactSortByField", unfollowed := true, recurses := true, apart := false }
def FnExactSortByFieldSaid : Prop := fnExactSortByFieldRow.holds Try.pinned (OpenSpec.ofChange fnExactSortByFieldSpec)

/-- ITS FALSE NEIGHBOUR: 'it returns false'. Refute it at one input. -/
def fnExactSortByFieldWrong : ChangeSpec := { name := "fnExactSortByField", fn := fun _ => fun
  | [d1, d2] => { results := [.lit (.bool false)], args := [d1, d2] }
  | _ => none }
def FnExactSortByFieldWrongFalsely : Prop := fnExactSortByFieldRow.holds Try.pinned (OpenSpec.ofChange fnExactSortByFieldWrong)

/-- 'laws.FnExactRegretOf': WHATEVER THE INPUT: true; the input reads as it did. -/
def fnExactRegretOfSpec : ChangeSpec := { name := "fnExactRegretOf", fn := fun _ => fun
  | [d1, d2] => { results := [.lit (.bool true)], args := [d1, d2] }
  | _ => none }
def fnExactRegretOfRow : OpenClaim := { program := "ytkjnndaphdhlkaa", sum := "173983e0df34670687f127a9da4c9fd721268792721259e56f4857da42d28333", func := "loop.example/g01987/laws.FnExactRegretOf", spec := "fnExactRegretOf", unfollowed := true, recurses := true, apart := false }
def FnExactRegretOfSaid : Prop := fnExactRegretOfRow.holds Try.pinned (OpenSpec.ofChange fnExactRegretOfSpec)

/-- ITS FALSE NEIGHBOUR: 'it returns false'. Refute it at one input. -/
def fnExactRegretOfWrong : ChangeSpec := { name := "fnExactRegretOf", fn := fun _ => fun
  | [d1, d2] => { results := [.lit (.bool false)], args := [d1, d2] }
  | _ => none }
def FnExactRegretOfWrongFalsely : Prop := fnExactRegretOfRow.holds Try.pinned (OpenSpec.ofChange fnExactRegretOfWrong)

/-- 'laws.FnExactGreedySet': WHATEVER THE INPUT: true; the input reads as it did. -/
def fnExactGreedySetSpec : ChangeSpec := { name := "fnExactGreedySet", fn := fun _ => fun
  | [d1, d2] => { results := [.lit (.bool true)], args := [d1, d2] }
  | _ => none }
def fnExactGreedySetRow : OpenClaim := { program := "ytkjnndaphdhlkaa", sum := "173983e0df34670687f127a9da4c9fd721268792721259e56f4857da42d28333", func := "loop.example/g01987/laws.FnExactGreedySet", spec := "fnExactGreedySet", unfollowed := true, recurses := true, apart := false }
def FnExactGreedySetSaid : Prop := fnExactGreedySetRow.holds Try.pinned (OpenSpec.ofChange fnExactGreedySetSpec)

/-- ITS FALSE NEIGHBOUR: 'it returns false'. Refute it at one input. -/
def fnExactGreedySetWrong : ChangeSpec := { name := "fnExactGreedySet", fn := fun _ => fun
  | [d1, d2] => { results := [.lit (.bool false)], args := [d1, d2] }
  | _ => none }
def FnExactGreedySetWrongFalsely : Prop := fnExactGreedySetRow.holds Try.pinned (OpenSpec.ofChange fnExactGreedySetWrong)

/-- 'laws.FnExactSmallestSet': WHATEVER THE INPUT: true; the input reads as it did. -/
def fnExactSmallestSetSpec : ChangeSpec := { name := "fnExactSmallestSet", fn := fun _ => fun
  | [d1, d2, d3] => { results := [.lit (.bool true)], args := [d1, d2, d3] }
  | _ => none }
def fnExactSmallestSetRow : OpenClaim := { program := "ytkjnndaphdhlkaa", sum := "173983e0df34670687f127a9da4c9fd721268792721259e56f4857da42d28333", func := "loop.example/g01987/laws.FnExactSmallestSet", spec := "fnExactSmallestSet", unfollowed := true, recurses := true, apart := false }
def FnExactSmallestSetSaid : Prop := fnExactSmallestSetRow.holds Try.pinned (OpenSpec.ofChange fnExactSmallestSetSpec)

/-- ITS FALSE NEIGHBOUR: 'it returns false'. Refute it at one input. -/
def fnExactSmallestSetWrong : ChangeSpec := { name := "fnExactSmallestSet", fn := fun _ => fun
  | [d1, d2, d3] => { results := [.lit (.bool false)], args := [d1, d2, d3] }
  | _ => none }
def FnExactSmallestSetWrongFalsely : Prop := fnExactSmallestSetRow.holds Try.pinned (OpenSpec.ofChange fnExactSmallestSetWrong)

/- THE SECOND FORM. 'bulk': how many values and letters a reading holds, each counted each time it is reached (what is shared counts as often as it is met; a slice's spare places count too). A statement '..UptoSaid' is the law's where the arguments, and the package variables that the reading takes, are together of bulk at most 1048576: NARROWER than '..Said'. Prove '..Said' where nothing that the law and all that it calls make is longer than what came in: it says more and counts as full. Else prove '..UptoSaid'. A law counts once. -/
mutual
def uptoBulk {H : Type} : DataW H → Nat
  | .lit (.string bytes) => bytes.length + 1
  | .lit _ => 1
  | .nil => 1
  | .ptr d => uptoBulk d + 1
  | .slice elems spare => uptoBulkAll elems + uptoBulkAll spare + 1
  | .agg parts => uptoBulkAll parts + 1
  | .iface _ d => uptoBulk d + 1
  | .map entries => uptoBulkEntries entries + 1
  | .held _ => 1
def uptoBulkAll {H : Type} : List (DataW H) → Nat
  | [] => 0
  | d :: r => uptoBulk d + uptoBulkAll r
def uptoBulkEntries {H : Type} : List (Lit × DataW H) → Nat
  | [] => 0
  | x :: r => uptoBulkEntry x + uptoBulkEntries r
def uptoBulkEntry {H : Type} : Lit × DataW H → Nat
  | (.string bytes, d) => bytes.length + uptoBulk d + 1
  | (_, d) => uptoBulk d + 1
 end
def uptoSmall : (H : Type) → List (DataW H) → Bool := fun _ ds => decide (uptoBulkAll ds ≤ 1048576)
def OpenSpec.upto (s : _root_.Go.ChangeSpec) : _root_.Go.OpenSpec := { _root_.Go.OpenSpec.ofChange s with cond := some uptoSmall }

/-- 'laws.FnExactIsFieldList', WHERE WHAT IT READS IS OF BULK AT MOST 1048576: true; the input reads as it did. -/
def fnExactIsFieldListUptoRow : OpenClaim := { program := "ytkjnndaphdhlkaa", sum := "173983e0df34670687f127a9da4c9fd721268792721259e56f4857da42d28333", func := "loop.example/g01987/laws.FnExactIsFieldList", spec := "fnExactIsFieldList", apart := false, narrowed := true }
def FnExactIsFieldListUptoSaid : Prop := fnExactIsFieldListUptoRow.holds Try.pinned (OpenSpec.upto fnExactIsFieldListSpec)

/-- 'laws.FnExactWeightLists', WHERE WHAT IT READS IS OF BULK AT MOST 1048576: true; the input reads as it did. -/
def fnExactWeightListsUptoRow : OpenClaim := { program := "ytkjnndaphdhlkaa", sum := "173983e0df34670687f127a9da4c9fd721268792721259e56f4857da42d28333", func := "loop.example/g01987/laws.FnExactWeightLists", spec := "fnExactWeightLists", apart := false, narrowed := true }
def FnExactWeightListsUptoSaid : Prop := fnExactWeightListsUptoRow.holds Try.pinned (OpenSpec.upto fnExactWeightListsSpec)

/-- 'laws.FnExactUtilityOf', WHERE WHAT IT READS IS OF BULK AT MOST 1048576: true; the input reads as it did. -/
def fnExactUtilityOfUptoRow : OpenClaim := { program := "ytkjnndaphdhlkaa", sum := "173983e0df34670687f127a9da4c9fd721268792721259e56f4857da42d28333", func := "loop.example/g01987/laws.FnExactUtilityOf", spec := "fnExactUtilityOf", apart := false, narrowed := true }
def FnExactUtilityOfUptoSaid : Prop := fnExactUtilityOfUptoRow.holds Try.pinned (OpenSpec.upto fnExactUtilityOfSpec)

/-- 'laws.FnExactHolesOf', WHERE WHAT IT READS IS OF BULK AT MOST 1048576: true; the input reads as it did. -/
def fnExactHolesOfUptoRow : OpenClaim := { program := "ytkjnndaphdhlkaa", sum := "173983e0df34670687f127a9da4c9fd721268792721259e56f4857da42d28333", func := "loop.example/g01987/laws.FnExactHolesOf", spec := "fnExactHolesOf", apart := false, narrowed := true }
def FnExactHolesOfUptoSaid : Prop := fnExactHolesOfUptoRow.holds Try.pinned (OpenSpec.upto fnExactHolesOfSpec)

/-- 'laws.FnExactBestUtility', WHERE WHAT IT READS IS OF BULK AT MOST 1048576: true; the input reads as it did. -/
def fnExactBestUtilityUptoRow : OpenClaim := { program := "ytkjnndaphdhlkaa", sum := "173983e0df34670687f127a9da4c9fd721268792721259e56f4857da42d28333", func := "loop.example/g01987/laws.FnExactBestUtility", spec := "fnExactBestUtility", apart := false, narrowed := true }
def FnExactBestUtilityUptoSaid : Prop := fnExactBestUtilityUptoRow.holds Try.pinned (OpenSpec.upto fnExactBestUtilitySpec)

/-- 'laws.FnRegrets', WHERE WHAT IT READS IS OF BULK AT MOST 1048576: true; the input reads as it did. -/
def fnRegretsUptoRow : OpenClaim := { program := "ytkjnndaphdhlkaa", sum := "173983e0df34670687f127a9da4c9fd721268792721259e56f4857da42d28333", func := "loop.example/g01987/laws.FnRegrets", spec := "fnRegrets", unfollowed := true, recurses := true, apart := false, narrowed := true }
def FnRegretsUptoSaid : Prop := fnRegretsUptoRow.holds Try.pinned (OpenSpec.upto fnRegretsSpec)

/-- 'laws.FnExactLowExpression', WHERE WHAT IT READS IS OF BULK AT MOST 1048576: true; the input reads as it did. -/
def fnExactLowExpressionUptoRow : OpenClaim := { program := "ytkjnndaphdhlkaa", sum := "173983e0df34670687f127a9da4c9fd721268792721259e56f4857da42d28333", func := "loop.example/g01987/laws.FnExactLowExpression", spec := "fnExactLowExpression", apart := false, narrowed := true }
def FnExactLowExpressionUptoSaid : Prop := fnExactLowExpressionUptoRow.holds Try.pinned (OpenSpec.upto fnExactLowExpressionSpec)

/-- 'laws.FnExactSortByField', WHERE WHAT IT READS IS OF BULK AT MOST 1048576: true; the input reads as it did. -/
def fnExactSortByFieldUptoRow : OpenClaim := { program := "ytkjnndaphdhlkaa", sum := "173983e0df34670687f127a9da4c9fd721268792721259e56f4857da42d28333", func := "loop.example/g01987/laws.FnExactSortByField", spec := "fnExactSortByField", unfollowed := true, recurses := true, apart := false, narrowed := true }
def FnExactSortByFieldUptoSaid : Prop := fnExactSortByFieldUptoRow.holds Try.pinned (OpenSpec.upto fnExactSortByFieldSpec)

/-- 'laws.FnExactRegretOf', WHERE WHAT IT READS IS OF BULK AT MOST 1048576: true; the input reads as it did. -/
def fnExactRegretOfUptoRow : OpenClaim := { program := "ytkjnndaphdhlkaa", sum := "173983e0df34670687f127a9da4c9fd721268792721259e56f4857da42d28333", func := "loop.example/g01987/laws.FnExactRegretOf", spec := "fnExactRegretOf", unfollowed := true, recurses := true, apart := false, narrowed := true }
def FnExactRegretOfUptoSaid : Prop := fnExactRegretOfUptoRow.holds Try.pinned (OpenSpec.upto fnExactRegretOfSpec)

/-- 'laws.FnExactGreedySet', WHERE WHAT IT READS IS OF BULK AT MOST 1048576: true; the input reads as it did. -/
def fnExactGreedySetUptoRow : OpenClaim := { program := "ytkjnndaphdhlkaa", sum := "173983e0df34670687f127a9da4c9fd721268792721259e56f4857da42d28333", func := "loop.example/g01987/laws.FnExactGreedySet", spec := "fnExactGreedySet", unfollowed := true, recurses := true, apart := false, narrowed := true }
def FnExactGreedySetUptoSaid : Prop := fnExactGreedySetUptoRow.holds Try.pinned (OpenSpec.upto fnExactGreedySetSpec)

/-- 'laws.FnExactSmallestSet', WHERE WHAT IT READS IS OF BULK AT MOST 1048576: true; the input reads as it did. -/
def fnExactSmallestSetUptoRow : OpenClaim := { program := "ytkjnndaphdhlkaa", sum := "173983e0df34670687f127a9da4c9fd721268792721259e56f4857da42d28333", func := "loop.example/g01987/laws.FnExactSmallestSet", spec := "fnExactSmallestSet", unfollowed := true, recurses := true, apart := false, narrowed := true }
def FnExactSmallestSetUptoSaid : Prop := fnExactSmallestSetUptoRow.holds Try.pinned (OpenSpec.upto fnExactSmallestSetSpec)

end Rows
end Go.Proofs.Ytkjnndaphdhlkaa
