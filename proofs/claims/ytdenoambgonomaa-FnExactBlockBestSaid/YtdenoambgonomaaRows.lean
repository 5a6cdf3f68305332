/-
  No cell of these rows narrows 'for every input' (looked for: loops, veiled, ifaces, maps, wideKeys, modest, calm, conditions, laid).
  DERIVED. THE GIVEN ROWS OF THIS SEAT. 5 by the template 'for every input the law returns true; each argument reads behind the call as it read before'; 0 by the template 'total and deterministic' (their statements: YtdenoambgonomaaTotals.lean).
  GIVEN WITH THE SEED: the statements are not yours to turn. If you find one false, say at which input.
  Laid BY PROGRAM, IN A SANDBOX (cutbox-rows.mjs): the forced cells as the released guide's own fill.sh prints them over the translation 6c65200de7d996c6… (all of the seat's roots in one cut). By AI agents, Wed Nov 11 2026. No macro, syntax, notation, axiom, sorry.
-/
import Derived.Test.YtdenoambgonomaaChecked
import GoSem.Claim
import GoSem.ClaimJoined
import GoSem.ClaimMapViews
import Derived.JoinedTies
import Derived.KernelRfl
namespace Go.Proofs.Ytdenoambgonomaa
/- THE CELL 'sum', in the pinned program and in every row, IS THE sha256 OF THE DUMP (.gsa) THAT YtdenoambgonomaaProg.lean LOADS. Nothing in Lean hashes anything: it is a label: what it is worth is what the hold of that sum in a sandbox is worth. -/
noncomputable def Try.pinned : Pinned := { name := "ytdenoambgonomaa", sum := "6c65200de7d996c63d242704b469932b9176e7be9ac2bfc3369629de9897897a", checked := Try.checked }
namespace Rows
def none {H : Type} : Left H := { results := [], args := [] }

/-- 'laws.FnExactSortedBest': WHATEVER THE INPUT: true; the input reads as it did. -/
def fnExactSortedBestSpec : ChangeSpec := { name := "fnExactSortedBest", fn := fun _ => fun
  | [d1, d2] => { results := [.lit (.bool true)], args := [d1, d2] }
  | _ => none }
def fnExactSortedBestRow : OpenClaim := { program := "ytdenoambgonomaa", sum := "6c65200de7d996c63d242704b469932b9176e7be9ac2bfc3369629de9897897a", func := "loop.example/g01987/laws.FnExactSortedBest", spec := "fnExactSortedBest", unfollowed := true, recurses := true, apart := false }
def FnExactSortedBestSaid : Prop := fnExactSortedBestRow.holds Try.pinned (OpenSpec.ofChange fnExactSortedBestSpec)

/-- ITS FALSE NEIGHBOUR: 'it returns false'. Refute it at one input. -/
def fnExactSortedBestWrong : ChangeSpec := { name := "fnExactSortedBest", fn := fun _ => fun
  | [d1, d2] => { results := [.lit (.bool false)], args := [d1, d2] }
  | _ => none }
def FnExactSortedBestWrongFalsely : Prop := fnExactSortedBestRow.holds Try.pinned (OpenSpec.ofChange fnExactSortedBestWrong)

/-- 'laws.FnExactBoxBest': WHATEVER THE INPUT: true; the input reads as it did. -/
def fnExactBoxBestSpec : ChangeSpec := { name := "fnExactBoxBest", fn := fun _ => fun
  | [d1, d2] => { results := [.lit (.bool true)], args := [d1, d2] }
  | _ => none }
def fnExactBoxBestRow : OpenClaim := { program := "ytdenoambgonomaa", sum := "6c65200de7d996c63d242704b469932b9176e7be9ac2bfc3369629de9897897a", func := "loop.example/g01987/laws.FnExactBoxBest", spec := "fnExactBoxBest", unfollowed := true, recurses := true, apart := false }
def FnExactBoxBestSaid : Prop := fnExactBoxBestRow.holds Try.pinned (OpenSpec.ofChange fnExactBoxBestSpec)

/-- ITS FALSE NEIGHBOUR: 'it returns false'. Refute it at one input. -/
def fnExactBoxBestWrong : ChangeSpec := { name := "fnExactBoxBest", fn := fun _ => fun
  | [d1, d2] => { results := [.lit (.bool false)], args := [d1, d2] }
  | _ => none }
def FnExactBoxBestWrongFalsely : Prop := fnExactBoxBestRow.holds Try.pinned (OpenSpec.ofChange fnExactBoxBestWrong)

/-- 'laws.FnExactProgressiveBest': WHATEVER THE INPUT: true; the input reads as it did. -/
def fnExactProgressiveBestSpec : ChangeSpec := { name := "fnExactProgressiveBest", fn := fun _ => fun
  | [d1, d2] => { results := [.lit (.bool true)], args := [d1, d2] }
  | _ => none }
def fnExactProgressiveBestRow : OpenClaim := { program := "ytdenoambgonomaa", sum := "6c65200de7d996c63d242704b469932b9176e7be9ac2bfc3369629de9897897a", func := "loop.example/g01987/laws.FnExactProgressiveBest", spec := "fnExactProgressiveBest", unfollowed := true, recurses := true, apart := false }
def FnExactProgressiveBestSaid : Prop := fnExactProgressiveBestRow.holds Try.pinned (OpenSpec.ofChange fnExactProgressiveBestSpec)

/-- ITS FALSE NEIGHBOUR: 'it returns false'. Refute it at one input. -/
def fnExactProgressiveBestWrong : ChangeSpec := { name := "fnExactProgressiveBest", fn := fun _ => fun
  | [d1, d2] => { results := [.lit (.bool false)], args := [d1, d2] }
  | _ => none }
def FnExactProgressiveBestWrongFalsely : Prop := fnExactProgressiveBestRow.holds Try.pinned (OpenSpec.ofChange fnExactProgressiveBestWrong)

/-- 'laws.FnLayers': WHATEVER THE INPUT: true; the input reads as it did. -/
def fnLayersSpec : ChangeSpec := { name := "fnLayers", fn := fun _ => fun
  | [d] => { results := [.lit (.bool true)], args := [d] }
  | _ => none }
def fnLayersRow : OpenClaim := { program := "ytdenoambgonomaa", sum := "6c65200de7d996c63d242704b469932b9176e7be9ac2bfc3369629de9897897a", func := "loop.example/g01987/laws.FnLayers", spec := "fnLayers", unfollowed := true, recurses := true, apart := false }
def FnLayersSaid : Prop := fnLayersRow.holds Try.pinned (OpenSpec.ofChange fnLayersSpec)

/-- ITS FALSE NEIGHBOUR: 'it returns false'. Refute it at one input. -/
def fnLayersWrong : ChangeSpec := { name := "fnLayers", fn := fun _ => fun
  | [d] => { results := [.lit (.bool false)], args := [d] }
  | _ => none }
def FnLayersWrongFalsely : Prop := fnLayersRow.holds Try.pinned (OpenSpec.ofChange fnLayersWrong)

/-- 'laws.FnExactBlockBest': WHATEVER THE INPUT: true; the input reads as it did. -/
def fnExactBlockBestSpec : ChangeSpec := { name := "fnExactBlockBest", fn := fun _ => fun
  | [d1, d2, d3] => { results := [.lit (.bool true)], args := [d1, d2, d3] }
  | _ => none }
def fnExactBlockBestRow : OpenClaim := { program := "ytdenoambgonomaa", sum := "6c65200de7d996c63d242704b469932b9176e7be9ac2bfc3369629de9897897a", func := "loop.example/g01987/laws.FnExactBlockBest", spec := "fnExactBlockBest", unfollowed := true, recurses := true, apart := false }
def FnExactBlockBestSaid : Prop := fnExactBlockBestRow.holds Try.pinned (OpenSpec.ofChange fnExactBlockBestSpec)

/-- ITS FALSE NEIGHBOUR: 'it returns false'. Refute it at one input. -/
def fnExactBlockBestWrong : ChangeSpec := { name := "fnExactBlockBest", fn := fun _ => fun
  | [d1, d2, d3] => { results := [.lit (.bool false)], args := [d1, d2, d3] }
  | _ => none }
def FnExactBlockBestWrongFalsely : Prop := fnExactBlockBestRow.holds Try.pinned (OpenSpec.ofChange fnExactBlockBestWrong)

/- THE SECOND FORM. 'bulk': how many values and letters a reading holds, each counted each time it is reached (what is shared counts as often as it is met; a slice's spare places count too). A statement '..UptoSaid' is the law's where the arguments, and the package variables that the reading takes, are together of bulk at most 1048576: NARROWER than '..Said'. Prove '..Said' where nothing that the law and all that it calls make is longer than what came in: it says more and counts as full. Else prove '..UptoSaid'. A law counts once. -/
mutual
def uptoBulk {H : Type} : DataW H → Nat
  | .lit (.string bytes) => bytes.length + 1
  | .lit _ => 1
  | .nil => 1
  | .ptr d => uptoBulk d + 1
  | .slice elems spare => uptoBulkAll elems + uptoBulkAll spare + 1
  | .agg parts => uptoBulkAll parts + 1
  | .iface _ d => uptoBulk d + 1
  | .map entries => uptoBulkEntries entries + 1
  | .held _ => 1
def uptoBulkAll {H : Type} : List (DataW H) → Nat
  | [] => 0
  | d :: r => uptoBulk d + uptoBulkAll r
def uptoBulkEntries {H : Type} : List (Lit × DataW H) → Nat
  | [] => 0
  | x :: r => uptoBulkEntry x + uptoBulkEntries r
def uptoBulkEntry {H : Type} : Lit × DataW H → Nat
  | (.string bytes, d) => bytes.length + uptoBulk d + 1
  | (_, d) => uptoBulk d + 1
 end
def uptoSmall : (H : Type) → List (DataW H) → Bool := fun _ ds => decide (uptoBulkAll ds ≤ 1048576)
def OpenSpec.upto (s : _root_.Go.ChangeSpec) : _root_.Go.OpenSpec := { _root_.Go.OpenSpec.ofChange s with cond := some uptoSmall }

/-- 'laws.FnExactSortedBest', WHERE WHAT IT READS IS OF BULK AT MOST 1048576: true; the input reads as it did. -/
def fnExactSortedBestUptoRow : OpenClaim := { program := "ytdenoambgonomaa", sum := "6c65200de7d996c63d242704b469932b9176e7be9ac2bfc3369629de9897897a", func := "loop.example/g01987/laws.FnExactSortedBest", spec := "fnExactSortedBest", unfollowed := true, recurses := true, apart := false, narrowed := true }
def FnExactSortedBestUptoSaid : Prop := fnExactSortedBestUptoRow.holds Try.pinned (OpenSpec.upto fnExactSortedBestSpec)

/-- 'laws.FnExactBoxBest', WHERE WHAT IT READS IS OF BULK AT MOST 1048576: true; the input reads as it did. -/
def fnExactBoxBestUptoRow : OpenClaim := { program := "ytdenoambgonomaa", sum := "6c65200de7d996c63d242704b469932b9176e7be9ac2bfc3369629de9897897a", func := "loop.example/g01987/laws.FnExactBoxBest", spec := "fnExactBoxBest", unfollowed := true, recurses := true, apart := false, narrowed := true }
def FnExactBoxBestUptoSaid : Prop := fnExactBoxBestUptoRow.holds Try.pinned (OpenSpec.upto fnExactBoxBestSpec)

/-- 'laws.FnExactProgressiveBest', WHERE WHAT IT READS IS OF BULK AT MOST 1048576: true; the input reads as it did. -/
def fnExactProgressiveBestUptoRow : OpenClaim := { program := "ytdenoambgonomaa", sum := "6c65200de7d996c63d242704b469932b9176e7be9ac2bfc3369629de9897897a", func := "loop.example/g01987/laws.FnExactProgressiveBest", spec := "fnExactProgressiveBest", unfollowed := true, recurses := true, apart := false, narrowed := true }
def FnExactProgressiveBestUptoSaid : Prop := fnExactProgressiveBestUptoRow.holds Try.pinned (OpenSpec.upto fnExactProgressiveBestSpec)

/-- 'laws.FnLayers', WHERE WHAT IT READS IS OF BULK AT MOST 1048576: true; the input reads as it did. -/
def fnLayersUptoRow : OpenClaim := { program := "ytdenoambgonomaa", sum := "6c65200de7d996c63d242704b469932b9176e7be9ac2bfc3369629de9897897a", func := "loop.example/g01987/laws.FnLayers", spec := "fnLayers", unfollowed := true, recurses := true, apart := false, narrowed := true }
def FnLayersUptoSaid : Prop := fnLayersUptoRow.holds Try.pinned (OpenSpec.upto fnLayersSpec)

/-- 'laws.FnExactBlockBest', WHERE WHAT IT READS IS OF BULK AT MOST 1048576: true; the input reads as it did. -/
def fnExactBlockBestUptoRow : OpenClaim := { program := "ytdenoambgonomaa", sum := "6c65200de7d996c63d242704b469932b9176e7be9ac2bfc3369629de9897897a", func := "loop.example/g01987/laws.FnExactBlockBest", spec := "fnExactBlockBest", unfollowed := true, recurses := true, apart := false, narrowed := true }
def FnExactBlockBestUptoSaid : Prop := fnExactBlockBestUptoRow.holds Try.pinned (OpenSpec.upto fnExactBlockBestSpec)

end Rows
end Go.Proofs.Ytdenoambgonomaa
