/-
  No cell of these rows narrows 'for every input' (looked for: loops, veiled, ifaces, maps, wideKeys, modest, calm, conditions, laid).
  DERIVED. THE GIVEN ROWS OF THIS SEAT. 9 by the template 'for every input the law returns true; each argument reads behind the call as it read before'; 0 by the template 'total and deterministic' (their statements: YtoemiahnilmdlaaTotals.lean).
  GIVEN WITH THE SEED: the statements are not yours to turn. If you find one false, say at which input.
  Laid BY PROGRAM, IN A SANDBOX (cutbox-rows.mjs): the forced cells as the released guide's own fill.sh prints them over the translation 0aea163c33cd7168… (all of the seat's roots in one cut). By AI agents, Wed Nov 11 2026. No macro, syntax, notation, axiom, sorry.
-/
import Derived.Test.YtoemiahnilmdlaaChecked
import GoSem.Claim
import GoSem.ClaimJoined
import GoSem.ClaimMapViews
import Derived.JoinedTies
import Derived.KernelRfl
namespace Go.Proofs.Ytoemiahnilmdlaa
/- THE CELL 'sum', in the pinned program and in every row, IS THE sha256 OF THE DUMP (.gsa) THAT YtoemiahnilmdlaaProg.lean LOADS. Nothing in Lean hashes anything: it is a label: what it is worth is what the hold of that sum in a sandbox is worth. -/
noncomputable def Try.pinned : Pinned := { name := "ytoemiahnilmdlaa", sum := "0aea163c33cd71684deae65f1e0876cee1a79fe7cba709395cb7b57d92ebffea", checked := Try.checked }
namespace Rows
def none {H : Type} : Left H := { results := [], args := [] }

/-- 'laws.FnExactSmallestSet': WHATEVER THE INPUT: true; the input reads as it did. -/
def fnExactSmallestSetSpec : ChangeSpec := { name := "fnExactSmallestSet", fn := fun _ => fun
  | [d1, d2, d3] => { results := [.lit (.bool true)], args := [d1, d2, d3] }
  | _ => none }
def fnExactSmallestSetRow : OpenClaim := { program := "ytoemiahnilmdlaa", sum := "0aea163c33cd71684deae65f1e0876cee1a79fe7cba709395cb7b57d92ebffea", func := "loop.example/g01987/laws.FnExactSmallestSet", spec := "fnExactSmallestSet", unfollowed := true, recurses := true, apart := false }
def FnExactSmallestSetSaid : Prop := fnExactSmallestSetRow.holds Try.pinned (OpenSpec.ofChange fnExactSmallestSetSpec)

/-- ITS FALSE NEIGHBOUR: 'it returns false'. Refute it at one input. -/
def fnExactSmallestSetWrong : ChangeSpec := { name := "fnExactSmallestSet", fn := fun _ => fun
  | [d1, d2, d3] => { results := [.lit (.bool false)], args := [d1, d2, d3] }
  | _ => none }
def FnExactSmallestSetWrongFalsely : Prop := fnExactSmallestSetRow.holds Try.pinned (OpenSpec.ofChange fnExactSmallestSetWrong)

/-- 'laws.FnRegrets': WHATEVER THE INPUT: true; the input reads as it did. -/
def fnRegretsSpec : ChangeSpec := { name := "fnRegrets", fn := fun _ => fun
  | [d] => { results := [.lit (.bool true)], args := [d] }
  | _ => none }
def fnRegretsRow : OpenClaim := { program := "ytoemiahnilmdlaa", sum := "0aea163c33cd71684deae65f1e0876cee1a79fe7cba709395cb7b57d92ebffea", func := "loop.example/g01987/laws.FnRegrets", spec := "fnRegrets", unfollowed := true, recurses := true, apart := false }
def FnRegretsSaid : Prop := fnRegretsRow.holds Try.pinned (OpenSpec.ofChange fnRegretsSpec)

/-- ITS FALSE NEIGHBOUR: 'it returns false'. Refute it at one input. -/
def fnRegretsWrong : ChangeSpec := { name := "fnRegrets", fn := fun _ => fun
  | [d] => { results := [.lit (.bool false)], args := [d] }
  | _ => none }
def FnRegretsWrongFalsely : Prop := fnRegretsRow.holds Try.pinned (OpenSpec.ofChange fnRegretsWrong)

/-- 'laws.FnExactNormalizeExpression': WHATEVER THE INPUT: true; the input reads as it did. -/
def fnExactNormalizeExpressionSpec : ChangeSpec := { name := "fnExactNormalizeExpression", fn := fun _ => fun
  | [d] => { results := [.lit (.bool true)], args := [d] }
  | _ => none }
def fnExactNormalizeExpressionRow : OpenClaim := { program := "ytoemiahnilmdlaa", sum := "0aea163c33cd71684deae65f1e0876cee1a79fe7cba709395cb7b57d92ebffea", func := "loop.example/g01987/laws.FnExactNormalizeExpression", spec := "fnExactNormalizeExpression", unfollowed := true, recurses := true, apart := false }
def FnExactNormalizeExpressionSaid : Prop := fnExactNormalizeExpressionRow.holds Try.pinned (OpenSpec.ofChange fnExactNormalizeExpressionSpec)

/-- ITS FALSE NEIGHBOUR: 'it returns false'. Refute it at one input. -/
def fnExactNormalizeExpressionWrong : ChangeSpec := { name := "fnExactNormalizeExpression", fn := fun _ => fun
  | [d] => { results := [.lit (.bool false)], args := [d] }
  | _ => none }
def FnExactNormalizeExpressionWrongFalsely : Prop := fnExactNormalizeExpressionRow.holds Try.pinned (OpenSpec.ofChange fnExactNormalizeExpressionWrong)

/-- 'laws.FnExactRewritings': WHATEVER THE INPUT: true; the input reads as it did. -/
def fnExactRewritingsSpec : ChangeSpec := { name := "fnExactRewritings", fn := fun _ => fun
  | [d] => { results := [.lit (.bool true)], args := [d] }
  | _ => none }
def fnExactRewritingsRow : OpenClaim := { program := "ytoemiahnilmdlaa", sum := "0aea163c33cd71684deae65f1e0876cee1a79fe7cba709395cb7b57d92ebffea", func := "loop.example/g01987/laws.FnExactRewritings", spec := "fnExactRewritings", unfollowed := true, recurses := true, apart := false }
def FnExactRewritingsSaid : Prop := fnExactRewritingsRow.holds Try.pinned (OpenSpec.ofChange fnExactRewritingsSpec)

/-- ITS FALSE NEIGHBOUR: 'it returns false'. Refute it at one input. -/
def fnExactRewritingsWrong : ChangeSpec := { name := "fnExactRewritings", fn := fun _ => fun
  | [d] => { results := [.lit (.bool false)], args := [d] }
  | _ => none }
def FnExactRewritingsWrongFalsely : Prop := fnExactRewritingsRow.holds Try.pinned (OpenSpec.ofChange fnExactRewritingsWrong)

/-- 'laws.FnRewrites': WHATEVER THE INPUT: true; the input reads as it did. -/
def fnRewritesSpec : ChangeSpec := { name := "fnRewrites", fn := fun _ => fun
  | [d] => { results := [.lit (.bool true)], args := [d] }
  | _ => none }
def fnRewritesRow : OpenClaim := { program := "ytoemiahnilmdlaa", sum := "0aea163c33cd71684deae65f1e0876cee1a79fe7cba709395cb7b57d92ebffea", func := "loop.example/g01987/laws.FnRewrites", spec := "fnRewrites", unfollowed := true, recurses := true, apart := false }
def FnRewritesSaid : Prop := fnRewritesRow.holds Try.pinned (OpenSpec.ofChange fnRewritesSpec)

/-- ITS FALSE NEIGHBOUR: 'it returns false'. Refute it at one input. -/
def fnRewritesWrong : ChangeSpec := { name := "fnRewrites", fn := fun _ => fun
  | [d] => { results := [.lit (.bool false)], args := [d] }
  | _ => none }
def FnRewritesWrongFalsely : Prop := fnRewritesRow.holds Try.pinned (OpenSpec.ofChange fnRewritesWrong)

/-- 'laws.FnExactSortedBest': WHATEVER THE INPUT: true; the input reads as it did. -/
def fnExactSortedBestSpec : ChangeSpec := { name := "fnExactSortedBest", fn := fun _ => fun
  | [d1, d2] => { results := [.lit (.bool true)], args := [d1, d2] }
  | _ => none }
def fnExactSortedBestRow : OpenClaim := { program := "ytoemiahnilmdlaa", sum := "0aea163c33cd71684deae65f1e0876cee1a79fe7cba709395cb7b57d92ebffea", func := "loop.example/g01987/laws.FnExactSortedBest", spec := "fnExactSortedBest", unfollowed := true, recurses := true, apart := false }
def FnExactSortedBestSaid : Prop := fnExactSortedBestRow.holds Try.pinned (OpenSpec.ofChange fnExactSortedBestSpec)

/-- ITS FALSE NEIGHBOUR: 'it returns false'. Refute it at one input. -/
def fnExactSortedBestWrong : ChangeSpec := { name := "fnExactSortedBest", fn := fun _ => fun
  | [d1, d2] => { results := [.lit (.bool false)], args := [d1, d2] }
  | _ => none }
def FnExactSortedBestWrongFalsely : Prop := fnExactSortedBestRow.holds Try.pinned (OpenSpec.ofChange fnExactSortedBestWrong)

/-- 'laws.FnExactBoxBest': WHATEVER THE INPUT: true; the input reads as it did. -/
def fnExactBoxBestSpec : ChangeSpec := { name := "fnExactBoxBest", fn := fun _ => fun
  | [d1, d2] => { results := [.lit (.bool true)], args := [d1, d2] }
  | _ => none }
def fnExactBoxBestRow : OpenClaim := { program := "ytoemiahnilmdlaa", sum := "0aea163c33cd71684deae65f1e0876cee1a79fe7cba709395cb7b57d92ebffea", func := "loop.example/g01987/laws.FnExactBoxBest", spec := "fnExactBoxBest", unfollowed := true, recurses := true, apart := false }
def FnExactBoxBestSaid : Prop := fnExactBoxBestRow.holds Try.pinned (OpenSpec.ofChange fnExactBoxBestSpec)

/-- ITS FALSE NEIGHBOUR: 'it returns false'. Refute it at one input. -/
def fnExactBoxBestWrong : ChangeSpec := { name := "fnExactBoxBest", fn := fun _ => fun
  | [d1, d2] => { results := [.lit (.bool false)], args := [d1, d2] }
  | _ => none }
def FnExactBoxBestWrongFalsely : Prop := fnExactBoxBestRow.holds Try.pinned (OpenSpec.ofChange fnExactBoxBestWrong)

/-- 'laws.FnLayers': WHATEVER THE INPUT: true; the input reads as it did. -/
def fnLayersSpec : ChangeSpec := { name := "fnLayers", fn := fun _ => fun
  | [d] => { results := [.lit (.bool true)], args := [d] }
  | _ => none }
def fnLayersRow : OpenClaim := { program := "ytoemiahnilmdlaa", sum := "0aea163c33cd71684deae65f1e0876cee1a79fe7cba709395cb7b57d92ebffea", func := "loop.example/g01987/laws.FnLayers", spec := "fnLayers", unfollowed := true, recurses := true, apart := false }
def FnLayersSaid : Prop := fnLayersRow.holds Try.pinned (OpenSpec.ofChange fnLayersSpec)

/-- ITS FALSE NEIGHBOUR: 'it returns false'. Refute it at one input. -/
def fnLayersWrong : ChangeSpec := { name := "fnLayers", fn := fun _ => fun
  | [d] => { results := [.lit (.bool false)], args := [d] }
  | _ => none }
def FnLayersWrongFalsely : Prop := fnLayersRow.holds Try.pinned (OpenSpec.ofChange fnLayersWrong)

/-- 'laws.FnGroups': WHATEVER THE INPUT: true; the input reads as it did. -/
def fnGroupsSpec : ChangeSpec := { name := "fnGroups", fn := fun _ => fun
  | [d] => { results := [.lit (.bool true)], args := [d] }
  | _ => none }
def fnGroupsRow : OpenClaim := { program := "ytoemiahnilmdlaa", sum := "0aea163c33cd71684deae65f1e0876cee1a79fe7cba709395cb7b57d92ebffea", func := "loop.example/g01987/laws.FnGroups", spec := "fnGroups", unfollowed := true, recurses := true, apart := false }
def FnGroupsSaid : Prop := fnGroupsRow.holds Try.pinned (OpenSpec.ofChange fnGroupsSpec)

/-- ITS FALSE NEIGHBOUR: 'it returns false'. Refute it at one input. -/
def fnGroupsWrong : ChangeSpec := { name := "fnGroups", fn := fun _ => fun
  | [d] => { results := [.lit (.bool false)], args := [d] }
  | _ => none }
def FnGroupsWrongFalsely : Prop := fnGroupsRow.holds Try.pinned (OpenSpec.ofChange fnGroupsWrong)

/- THE SECOND FORM. 'bulk': how many values and letters a reading holds, each counted each time it is reached (what is shared counts as often as it is met; a slice's spare places count too). A statement '..UptoSaid' is the law's where the arguments, and the package variables that the reading takes, are together of bulk at most 1048576: NARROWER than '..Said'. Prove '..Said' where nothing that the law and all that it calls make is longer than what came in: it says more and counts as full. Else prove '..UptoSaid'. A law counts once. -/
mutual
def uptoBulk {H : Type} : DataW H → Nat
  | .lit (.string bytes) => bytes.length + 1
  | .lit _ => 1
  | .nil => 1
  | .ptr d => uptoBulk d + 1
  | .slice elems spare => uptoBulkAll elems + uptoBulkAll spare + 1
  | .agg parts => uptoBulkAll parts + 1
  | .iface _ d => uptoBulk d + 1
  | .map entries => uptoBulkEntries entries + 1
  | .held _ => 1
def uptoBulkAll {H : Type} : List (DataW H) → Nat
  | [] => 0
  | d :: r => uptoBulk d + uptoBulkAll r
def uptoBulkEntries {H : Type} : List (Lit × DataW H) → Nat
  | [] => 0
  | x :: r => uptoBulkEntry x + uptoBulkEntries r
def uptoBulkEntry {H : Type} : Lit × DataW H → Nat
  | (.string bytes, d) => bytes.length + uptoBulk d + 1
  | (_, d) => uptoBulk d + 1
 end
def uptoSmall : (H : Type) → List (DataW H) → Bool := fun _ ds => decide (uptoBulkAll ds ≤ 1048576)
def OpenSpec.upto (s : _root_.Go.ChangeSpec) : _root_.Go.OpenSpec := { _root_.Go.OpenSpec.ofChange s with cond := some uptoSmall }

/-- 'laws.FnExactSmallestSet', WHERE WHAT IT READS IS OF BULK AT MOST 1048576: true; the input reads as it did. -/
def fnExactSmallestSetUptoRow : OpenClaim := { program := "ytoemiahnilmdlaa", sum := "0aea163c33cd71684deae65f1e0876cee1a79fe7cba709395cb7b57d92ebffea", func := "loop.example/g01987/laws.FnExactSmallestSet", spec := "fnExactSmallestSet", unfollowed := true, recurses := true, apart := false, narrowed := true }
def FnExactSmallestSetUptoSaid : Prop := fnExactSmallestSetUptoRow.holds Try.pinned (OpenSpec.upto fnExactSmallestSetSpec)

/-- 'laws.FnRegrets', WHERE WHAT IT READS IS OF BULK AT MOST 1048576: true; the input reads as it did. -/
def fnRegretsUptoRow : OpenClaim := { program := "ytoemiahnilmdlaa", sum := "0aea163c33cd71684deae65f1e0876cee1a79fe7cba709395cb7b57d92ebffea", func := "loop.example/g01987/laws.FnRegrets", spec := "fnRegrets", unfollowed := true, recurses := true, apart := false, narrowed := true }
def FnRegretsUptoSaid : Prop := fnRegretsUptoRow.holds Try.pinned (OpenSpec.upto fnRegretsSpec)

/-- 'laws.FnExactNormalizeExpression', WHERE WHAT IT READS IS OF BULK AT MOST 1048576: true; the input reads as it did. -/
def fnExactNormalizeExpressionUptoRow : OpenClaim := { program := "ytoemiahnilmdlaa", sum := "0aea163c33cd71684deae65f1e0876cee1a79fe7cba709395cb7b57d92ebffea", func := "loop.example/g01987/laws.FnExactNormalizeExpression", spec := "fnExactNormalizeExpression", unfollowed := true, recurses := true, apart := false, narrowed := true }
def FnExactNormalizeExpressionUptoSaid : Prop := fnExactNormalizeExpressionUptoRow.holds Try.pinned (OpenSpec.upto fnExactNormalizeExpressionSpec)

/-- 'laws.FnExactRewritings', WHERE WHAT IT READS IS OF BULK AT MOST 1048576: true; the input reads as it did. -/
def fnExactRewritingsUptoRow : OpenClaim := { program := "ytoemiahnilmdlaa", sum := "0aea163c33cd71684deae65f1e0876cee1a79fe7cba709395cb7b57d92ebffea", func := "loop.example/g01987/laws.FnExactRewritings", spec := "fnExactRewritings", unfollowed := true, recurses := true, apart := false, narrowed := true }
def FnExactRewritingsUptoSaid : Prop := fnExactRewritingsUptoRow.holds Try.pinned (OpenSpec.upto fnExactRewritingsSpec)

/-- 'laws.FnRewrites', WHERE WHAT IT READS IS OF BULK AT MOST 1048576: true; the input reads as it did. -/
def fnRewritesUptoRow : OpenClaim := { program := "ytoemiahnilmdlaa", sum := "0aea163c33cd71684deae65f1e0876cee1a79fe7cba709395cb7b57d92ebffea", func := "loop.example/g01987/laws.FnRewrites", spec := "fnRewrites", unfollowed := true, recurses := true, apart := false, narrowed := true }
def FnRewritesUptoSaid : Prop := fnRewritesUptoRow.holds Try.pinned (OpenSpec.upto fnRewritesSpec)

/-- 'laws.FnExactSortedBest', WHERE WHAT IT READS IS OF BULK AT MOST 1048576: true; the input reads as it did. -/
def fnExactSortedBestUptoRow : OpenClaim := { program := "ytoemiahnilmdlaa", sum := "0aea163c33cd71684deae65f1e0876cee1a79fe7cba709395cb7b57d92ebffea", func := "loop.example/g01987/laws.FnExactSortedBest", spec := "fnExactSortedBest", unfollowed := true, recurses := true, apart := false, narrowed := true }
def FnExactSortedBestUptoSaid : Prop := fnExactSortedBestUptoRow.holds Try.pinned (OpenSpec.upto fnExactSortedBestSpec)

/-- 'laws.FnExactBoxBest', WHERE WHAT IT READS IS OF BULK AT MOST 1048576: true; the input reads as it did. -/
def fnExactBoxBestUptoRow : OpenClaim := { program := "ytoemiahnilmdlaa", sum := "0aea163c33cd71684deae65f1e0876cee1a79fe7cba709395cb7b57d92ebffea", func := "loop.example/g01987/laws.FnExactBoxBest", spec := "fnExactBoxBest", unfollowed := true, recurses := true, apart := false, narrowed := true }
def FnExactBoxBestUptoSaid : Prop := fnExactBoxBestUptoRow.holds Try.pinned (OpenSpec.upto fnExactBoxBestSpec)

/-- 'laws.FnLayers', WHERE WHAT IT READS IS OF BULK AT MOST 1048576: true; the input reads as it did. -/
def fnLayersUptoRow : OpenClaim := { program := "ytoemiahnilmdlaa", sum := "0aea163c33cd71684deae65f1e0876cee1a79fe7cba709395cb7b57d92ebffea", func := "loop.example/g01987/laws.FnLayers", spec := "fnLayers", unfollowed := true, recurses := true, apart := false, narrowed := true }
def FnLayersUptoSaid : Prop := fnLayersUptoRow.holds Try.pinned (OpenSpec.upto fnLayersSpec)

/-- 'laws.FnGroups', WHERE WHAT IT READS IS OF BULK AT MOST 1048576: true; the input reads as it did. -/
def fnGroupsUptoRow : OpenClaim := { program := "ytoemiahnilmdlaa", sum := "0aea163c33cd71684deae65f1e0876cee1a79fe7cba709395cb7b57d92ebffea", func := "loop.example/g01987/laws.FnGroups", spec := "fnGroups", unfollowed := true, recurses := true, apart := false, narrowed := true }
def FnGroupsUptoSaid : Prop := fnGroupsUptoRow.holds Try.pinned (OpenSpec.upto fnGroupsSpec)

end Rows
end Go.Proofs.Ytoemiahnilmdlaa
