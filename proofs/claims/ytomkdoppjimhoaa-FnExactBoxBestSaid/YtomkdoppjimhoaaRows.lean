/-
  No cell of these rows narrows 'for every input' (looked for: loops, veiled, ifaces, maps, wideKeys, modest, calm, conditions, laid).
  DERIVED. THE GIVEN ROWS OF THIS SEAT. 5 by the template 'for every input the law returns true; each argument reads behind the call as it read before'; 0 by the template 'total and deterministic' (their statements: YtomkdoppjimhoaaTotals.lean).
  GIVEN WITH THE SEED: the statements are not yours to turn. If you find one false, say at which input.
  Laid BY PROGRAM, IN A SANDBOX (cutbox-rows.mjs): the forced cells as the released guide's own fill.sh prints them over the translation c1e9adbea7db44a2… (all of the seat's roots in one cut). By AI agents, Wed Nov 11 2026. No macro, syntax, notation, axiom, sorry.
-/
import Derived.Test.YtomkdoppjimhoaaChecked
import GoSem.Claim
import GoSem.ClaimJoined
import GoSem.ClaimMapViews
import Derived.JoinedTies
import Derived.KernelRfl
namespace Go.Proofs.Ytomkdoppjimhoaa
/- THE CELL 'sum', in the pinned program and in every row, IS THE sha256 OF THE DUMP (.gsa) THAT YtomkdoppjimhoaaProg.lean LOADS. Nothing in Lean hashes anything: it is a label: what it is worth is what the hold of that sum in a sandbox is worth. -/
noncomputable def Try.pinned : Pinned := { name := "ytomkdoppjimhoaa", sum := "c1e9adbea7db44a23eb5d969a43af9bf3df8ea83e16a13017ed92fa454140131", checked := Try.checked }
namespace Rows
def none {H : Type} : Left H := { results := [], args := [] }

/-- 'laws.FnExactNormalizeExpression': WHATEVER THE INPUT: true; the input reads as it did. -/
def fnExactNormalizeExpressionSpec : ChangeSpec := { name := "fnExactNormalizeExpression", fn := fun _ => fun
  | [d] => { results := [.lit (.bool true)], args := [d] }
  | _ => none }
def fnExactNormalizeExpressionRow : OpenClaim := { program := "ytomkdoppjimhoaa", sum := "c1e9adbea7db44a23eb5d969a43af9bf3df8ea83e16a13017ed92fa454140131", func := "loop.example/g01987/laws.FnExactNormalizeExpression", spec := "fnExactNormalizeExpression", unfollowed := true, recurses := true, apart := false }
def FnExactNormalizeExpressionSaid : Prop := fnExactNormalizeExpressionRow.holds Try.pinned (OpenSpec.ofChange fnExactNormalizeExpressionSpec)

/-- ITS FALSE NEIGHBOUR: 'it returns false'. Refute it at one input. -/
def fnExactNormalizeExpressionWrong : ChangeSpec := { name := "fnExactNormalizeExpression", fn := fun _ => fun
  | [d] => { results := [.lit (.bool false)], args := [d] }
  | _ => none }
def FnExactNormalizeExpressionWrongFalsely : Prop := fnExactNormalizeExpressionRow.holds Try.pinned (OpenSpec.ofChange fnExactNormalizeExpressionWrong)

/-- 'laws.FnExactRewritings': WHATEVER THE INPUT: true; the input reads as it did. -/
def fnExactRewritingsSpec : ChangeSpec := { name := "fnExactRewritings", fn := fun _ => fun
  | [d] => { results := [.lit (.bool true)], args := [d] }
  | _ => none }
def fnExactRewritingsRow : OpenClaim := { program := "ytomkdoppjimhoaa", sum := "c1e9adbea7db44a23eb5d969a43af9bf3df8ea83e16a13017ed92fa454140131", func := "loop.example/g01987/laws.FnExactRewritings", spec := "fnExactRewritings", unfollowed := true, recurses := true, apart := false }
def FnExactRewritingsSaid : Prop := fnExactRewritingsRow.holds Try.pinned (OpenSpec.ofChange fnExactRewritingsSpec)

/-- ITS FALSE NEIGHBOUR: 'it returns false'. Refute it at one input. -/
def fnExactRewritingsWrong : ChangeSpec := { name := "fnExactRewritings", fn := fun _ => fun
  | [d] => { results := [.lit (.bool false)], args := [d] }
  | _ => none }
def FnExactRewritingsWrongFalsely : Prop := fnExactRewritingsRow.holds Try.pinned (OpenSpec.ofChange fnExactRewritingsWrong)

/-- 'laws.FnRewrites': WHATEVER THE INPUT: true; the input reads as it did. -/
def fnRewritesSpec : ChangeSpec := { name := "fnRewrites", fn := fun _ => fun
  | [d] => { results := [.lit (.bool true)], args := [d] }
  | _ => none }
def fnRewritesRow : OpenClaim := { program := "ytomkdoppjimhoaa", sum := "c1e9adbea7db44a23eb5d969a43af9bf3df8ea83e16a13017ed92fa454140131", func := "loop.example/g01987/laws.FnRewrites", spec := "fnRewrites", unfollowed := true, recurses := true, apart := false }
def FnRewritesSaid : Prop := fnRewritesRow.holds Try.pinned (OpenSpec.ofChange fnRewritesSpec)

/-- ITS FALSE NEIGHBOUR: 'it returns false'. Refute it at one input. -/
def fnRewritesWrong : ChangeSpec := { name := "fnRewrites", fn := fun _ => fun
  | [d] => { results := [.lit (.bool false)], args := [d] }
  | _ => none }
def FnRewritesWrongFalsely : Prop := fnRewritesRow.holds Try.pinned (OpenSpec.ofChange fnRewritesWrong)

/-- 'laws.FnExactSortedBest': WHATEVER THE INPUT: true; the input reads as it did. -/
def fnExactSortedBestSpec : ChangeSpec := { name := "fnExactSortedBest", fn := fun _ => fun
  | [d1, d2] => { results := [.lit (.bool true)], args := [d1, d2] }
  | _ => none }
def fnExactSortedBestRow : OpenClaim := { program := "ytomkdoppjimhoaa", sum := "c1e9adbea7db44a23eb5d969a43af9bf3df8ea83e16a13017ed92fa454140131", func := "loop.example/g01987/laws.FnExactSortedBest", spec := "fnExactSortedBest", unfollowed := true, recurses := true, apart := false }
def FnExactSortedBestSaid : Prop := fnExactSortedBestRow.holds Try.pinned (OpenSpec.ofChange fnExactSortedBestSpec)

/-- ITS FALSE NEIGHBOUR: 'it returns false'. Refute it at one input. -/
def fnExactSortedBestWrong : ChangeSpec := { name := "fnExactSortedBest", fn := fun _ => fun
  | [d1, d2] => { results := [.lit (.bool false)], args := [d1, d2] }
  | _ => none }
def FnExactSortedBestWrongFalsely : Prop := fnExactSortedBestRow.holds Try.pinned (OpenSpec.ofChange fnExactSortedBestWrong)

/-- 'laws.FnExactBoxBest': WHATEVER THE INPUT: true; the input reads as it did. -/
def fnExactBoxBestSpec : ChangeSpec := { name := "fnExactBoxBest", fn := fun _ => fun
  | [d1, d2] => { results := [.lit (.bool true)], args := [d1, d2] }
  | _ => none }
def fnExactBoxBestRow : OpenClaim := { program := "ytomkdoppjimhoaa", sum := "c1e9adbea7db44a23eb5d969a43af9bf3df8ea83e16a13017ed92fa454140131", func := "loop.example/g01987/laws.FnExactBoxBest", spec := "fnExactBoxBest", unfollowed := true, recurses := true, apart := false }
def FnExactBoxBestSaid : Prop := fnExactBoxBestRow.holds Try.pinned (OpenSpec.ofChange fnExactBoxBestSpec)

/-- ITS FALSE NEIGHBOUR: 'it returns false'. Refute it at one input. -/
def fnExactBoxBestWrong : ChangeSpec := { name := "fnExactBoxBest", fn := fun _ => fun
  | [d1, d2] => { results := [.lit (.bool false)], args := [d1, d2] }
  | _ => none }
def FnExactBoxBestWrongFalsely : Prop := fnExactBoxBestRow.holds Try.pinned (OpenSpec.ofChange fnExactBoxBestWrong)

/- THE SECOND FORM. 'bulk': how many values and letters a reading holds, each counted each time it is reached (what is shared counts as often as it is met; a slice's spare places count too). A statement '..UptoSaid' is the law's where the arguments, and the package variables that the reading takes, are together of bulk at most 1048576: NARROWER than '..Said'. Prove '..Said' where nothing that the law and all that it calls make is longer than what came in: it says more and counts as full. Else prove '..UptoSaid'. A law counts once. -/
mutual
def uptoBulk {H : Type} : DataW H → Nat
  | .lit (.string bytes) => bytes.length + 1
  | .lit _ => 1
  | .nil => 1
  | .ptr d => uptoBulk d + 1
  | .slice elems spare => uptoBulkAll elems + uptoBulkAll spare + 1
  | .agg parts => uptoBulkAll parts + 1
  | .iface _ d => uptoBulk d + 1
  | .map entries => uptoBulkEntries entries + 1
  | .held _ => 1
def uptoBulkAll {H : Type} : List (DataW H) → Nat
  | [] => 0
  | d :: r => uptoBulk d + uptoBulkAll r
def uptoBulkEntries {H : Type} : List (Lit × DataW H) → Nat
  | [] => 0
  | x :: r => uptoBulkEntry x + uptoBulkEntries r
def uptoBulkEntry {H : Type} : Lit × DataW H → Nat
  | (.string bytes, d) => bytes.length + uptoBulk d + 1
  | (_, d) => uptoBulk d + 1
 end
def uptoSmall : (H : Type) → List (DataW H) → Bool := fun _ ds => decide (uptoBulkAll ds ≤ 1048576)
def OpenSpec.upto (s : _root_.Go.ChangeSpec) : _root_.Go.OpenSpec := { _root_.Go.OpenSpec.ofChange s with cond := some uptoSmall }

/-- 'laws.FnExactNormalizeExpression', WHERE WHAT IT READS IS OF BULK AT MOST 1048576: true; the input reads as it did. -/
def fnExactNormalizeExpressionUptoRow : OpenClaim := { program := "ytomkdoppjimhoaa", sum := "c1e9adbea7db44a23eb5d969a43af9bf3df8ea83e16a13017ed92fa454140131", func := "loop.example/g01987/laws.FnExactNormalizeExpression", spec := "fnExactNormalizeExpression", unfollowed := true, recurses := true, apart := false, narrowed := true }
def FnExactNormalizeExpressionUptoSaid : Prop := fnExactNormalizeExpressionUptoRow.holds Try.pinned (OpenSpec.upto fnExactNormalizeExpressionSpec)

/-- 'laws.FnExactRewritings', WHERE WHAT IT READS IS OF BULK AT MOST 1048576: true; the input reads as it did. -/
def fnExactRewritingsUptoRow : OpenClaim := { program := "ytomkdoppjimhoaa", sum := "c1e9adbea7db44a23eb5d969a43af9bf3df8ea83e16a13017ed92fa454140131", func := "loop.example/g01987/laws.FnExactRewritings", spec := "fnExactRewritings", unfollowed := true, recurses := true, apart := false, narrowed := true }
def FnExactRewritingsUptoSaid : Prop := fnExactRewritingsUptoRow.holds Try.pinned (OpenSpec.upto fnExactRewritingsSpec)

/-- 'laws.FnRewrites', WHERE WHAT IT READS IS OF BULK AT MOST 1048576: true; the input reads as it did. -/
def fnRewritesUptoRow : OpenClaim := { program := "ytomkdoppjimhoaa", sum := "c1e9adbea7db44a23eb5d969a43af9bf3df8ea83e16a13017ed92fa454140131", func := "loop.example/g01987/laws.FnRewrites", spec := "fnRewrites", unfollowed := true, recurses := true, apart := false, narrowed := true }
def FnRewritesUptoSaid : Prop := fnRewritesUptoRow.holds Try.pinned (OpenSpec.upto fnRewritesSpec)

/-- 'laws.FnExactSortedBest', WHERE WHAT IT READS IS OF BULK AT MOST 1048576: true; the input reads as it did. -/
def fnExactSortedBestUptoRow : OpenClaim := { program := "ytomkdoppjimhoaa", sum := "c1e9adbea7db44a23eb5d969a43af9bf3df8ea83e16a13017ed92fa454140131", func := "loop.example/g01987/laws.FnExactSortedBest", spec := "fnExactSortedBest", unfollowed := true, recurses := true, apart := false, narrowed := true }
def FnExactSortedBestUptoSaid : Prop := fnExactSortedBestUptoRow.holds Try.pinned (OpenSpec.upto fnExactSortedBestSpec)

/-- 'laws.FnExactBoxBest', WHERE WHAT IT READS IS OF BULK AT MOST 1048576: true; the input reads as it did. -/
def fnExactBoxBestUptoRow : OpenClaim := { program := "ytomkdoppjimhoaa", sum := "c1e9adbea7db44a23eb5d969a43af9bf3df8ea83e16a13017ed92fa454140131", func := "loop.example/g01987/laws.FnExactBoxBest", spec := "fnExactBoxBest", unfollowed := true, recurses := true, apart := false, narrowed := true }
def FnExactBoxBestUptoSaid : Prop := fnExactBoxBestUptoRow.holds Try.pinned (OpenSpec.upto fnExactBoxBestSpec)

end Rows
end Go.Proofs.Ytomkdoppjimhoaa
