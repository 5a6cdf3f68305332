/-
  No cell of these rows narrows 'for every input' (looked for: loops, veiled, ifaces, maps, wideKeys, modest, calm, conditions, laid).
  DERIVED. THE GIVEN ROWS OF THIS SEAT. 12 by the template 'for every input the law returns true; each argument reads behind the call as it read before'; 0 by the template 'total and deterministic' (their statements: YtpdhdnmcafjadaaTotals.lean).
  GIVEN WITH THE SEED: the statements are not yours to turn. If you find one false, say at which input.
  Laid BY PROGRAM, IN A SANDBOX (cutbox-rows.mjs): the forced cells as the released guide's own fill.sh prints them over the translation e9a712e82032ae63… (all of the seat's roots in one cut). By AI agents, Wed Nov 11 2026. No macro, syntax, notation, axiom, sorry.
-/
import Derived.Test.YtpdhdnmcafjadaaChecked
import GoSem.Claim
import GoSem.ClaimJoined
import GoSem.ClaimMapViews
import Derived.JoinedTies
import Derived.KernelRfl
namespace Go.Proofs.Ytpdhdnmcafjadaa
/- THE CELL 'sum', in the pinned program and in every row, IS THE sha256 OF THE DUMP (.gsa) THAT YtpdhdnmcafjadaaProg.lean LOADS. Nothing in Lean hashes anything: it is a label: what it is worth is what the hold of that sum in a sandbox is worth. -/
noncomputable def Try.pinned : Pinned := { name := "ytpdhdnmcafjadaa", sum := "e9a712e82032ae63448ae3f42aa27db6be252727e287aa53d55259e4943ee6cb", checked := Try.checked }
namespace Rows
def none {H : Type} : Left H := { results := [], args := [] }

/-- 'laws.FnBest': WHATEVER THE INPUT: true; the input reads as it did. -/
def fnBestSpec : ChangeSpec := { name := "fnBest", fn := fun _ => fun
  | [d] => { results := [.lit (.bool true)], args := [d] }
  | _ => none }
def fnBestRow : OpenClaim := { program := "ytpdhdnmcafjadaa", sum := "e9a712e82032ae63448ae3f42aa27db6be252727e287aa53d55259e4943ee6cb", func := "loop.example/g01987/laws.FnBest", spec := "fnBest", unfollowed := true, recurses := true, apart := false }
def FnBestSaid : Prop := fnBestRow.holds Try.pinned (OpenSpec.ofChange fnBestSpec)

/-- ITS FALSE NEIGHBOUR: 'it returns false'. Refute it at one input. -/
def fnBestWrong : ChangeSpec := { name := "fnBest", fn := fun _ => fun
  | [d] => { results := [.lit (.bool false)], args := [d] }
  | _ => none }
def FnBestWrongFalsely : Prop := fnBestRow.holds Try.pinned (OpenSpec.ofChange fnBestWrong)

/-- 'laws.FnExactCondorcetOf': WHATEVER THE INPUT: true; the input reads as it did. -/
def fnExactCondorcetOfSpec : ChangeSpec := { name := "fnExactCondorcetOf", fn := fun _ => fun
  | [d1, d2] => { results := [.lit (.bool true)], args := [d1, d2] }
  | _ => none }
def fnExactCondorcetOfRow : OpenClaim := { program := "ytpdhdnmcafjadaa", sum := "e9a712e82032ae63448ae3f42aa27db6be252727e287aa53d55259e4943ee6cb", func := "loop.example/g01987/laws.FnExactCondorcetOf", spec := "fnExactCondorcetOf", unfollowed := true, recurses := true, apart := false }
def FnExactCondorcetOfSaid : Prop := fnExactCondorcetOfRow.holds Try.pinned (OpenSpec.ofChange fnExactCondorcetOfSpec)

/-- ITS FALSE NEIGHBOUR: 'it returns false'. Refute it at one input. -/
def fnExactCondorcetOfWrong : ChangeSpec := { name := "fnExactCondorcetOf", fn := fun _ => fun
  | [d1, d2] => { results := [.lit (.bool false)], args := [d1, d2] }
  | _ => none }
def FnExactCondorcetOfWrongFalsely : Prop := fnExactCondorcetOfRow.holds Try.pinned (OpenSpec.ofChange fnExactCondorcetOfWrong)

/-- 'laws.FnExactSkybandOf': WHATEVER THE INPUT: true; the input reads as it did. -/
def fnExactSkybandOfSpec : ChangeSpec := { name := "fnExactSkybandOf", fn := fun _ => fun
  | [d1, d2, d3] => { results := [.lit (.bool true)], args := [d1, d2, d3] }
  | _ => none }
def fnExactSkybandOfRow : OpenClaim := { program := "ytpdhdnmcafjadaa", sum := "e9a712e82032ae63448ae3f42aa27db6be252727e287aa53d55259e4943ee6cb", func := "loop.example/g01987/laws.FnExactSkybandOf", spec := "fnExactSkybandOf", unfollowed := true, recurses := true, apart := false }
def FnExactSkybandOfSaid : Prop := fnExactSkybandOfRow.holds Try.pinned (OpenSpec.ofChange fnExactSkybandOfSpec)

/-- ITS FALSE NEIGHBOUR: 'it returns false'. Refute it at one input. -/
def fnExactSkybandOfWrong : ChangeSpec := { name := "fnExactSkybandOf", fn := fun _ => fun
  | [d1, d2, d3] => { results := [.lit (.bool false)], args := [d1, d2, d3] }
  | _ => none }
def FnExactSkybandOfWrongFalsely : Prop := fnExactSkybandOfRow.holds Try.pinned (OpenSpec.ofChange fnExactSkybandOfWrong)

/-- 'laws.FnExactUnanimousBest': WHATEVER THE INPUT: true; the input reads as it did. -/
def fnExactUnanimousBestSpec : ChangeSpec := { name := "fnExactUnanimousBest", fn := fun _ => fun
  | [d1, d2] => { results := [.lit (.bool true)], args := [d1, d2] }
  | _ => none }
def fnExactUnanimousBestRow : OpenClaim := { program := "ytpdhdnmcafjadaa", sum := "e9a712e82032ae63448ae3f42aa27db6be252727e287aa53d55259e4943ee6cb", func := "loop.example/g01987/laws.FnExactUnanimousBest", spec := "fnExactUnanimousBest", apart := false }
def FnExactUnanimousBestSaid : Prop := fnExactUnanimousBestRow.holds Try.pinned (OpenSpec.ofChange fnExactUnanimousBestSpec)

/-- ITS FALSE NEIGHBOUR: 'it returns false'. Refute it at one input. -/
def fnExactUnanimousBestWrong : ChangeSpec := { name := "fnExactUnanimousBest", fn := fun _ => fun
  | [d1, d2] => { results := [.lit (.bool false)], args := [d1, d2] }
  | _ => none }
def FnExactUnanimousBestWrongFalsely : Prop := fnExactUnanimousBestRow.holds Try.pinned (OpenSpec.ofChange fnExactUnanimousBestWrong)

/-- 'laws.FnExactApprovalScores': WHATEVER THE INPUT: true; the input reads as it did. -/
def fnExactApprovalScoresSpec : ChangeSpec := { name := "fnExactApprovalScores", fn := fun _ => fun
  | [d1, d2] => { results := [.lit (.bool true)], args := [d1, d2] }
  | _ => none }
def fnExactApprovalScoresRow : OpenClaim := { program := "ytpdhdnmcafjadaa", sum := "e9a712e82032ae63448ae3f42aa27db6be252727e287aa53d55259e4943ee6cb", func := "loop.example/g01987/laws.FnExactApprovalScores", spec := "fnExactApprovalScores", apart := false }
def FnExactApprovalScoresSaid : Prop := fnExactApprovalScoresRow.holds Try.pinned (OpenSpec.ofChange fnExactApprovalScoresSpec)

/-- ITS FALSE NEIGHBOUR: 'it returns false'. Refute it at one input. -/
def fnExactApprovalScoresWrong : ChangeSpec := { name := "fnExactApprovalScores", fn := fun _ => fun
  | [d1, d2] => { results := [.lit (.bool false)], args := [d1, d2] }
  | _ => none }
def FnExactApprovalScoresWrongFalsely : Prop := fnExactApprovalScoresRow.holds Try.pinned (OpenSpec.ofChange fnExactApprovalScoresWrong)

/-- 'laws.FnExactBordaScores': WHATEVER THE INPUT: true; the input reads as it did. -/
def fnExactBordaScoresSpec : ChangeSpec := { name := "fnExactBordaScores", fn := fun _ => fun
  | [d1, d2] => { results := [.lit (.bool true)], args := [d1, d2] }
  | _ => none }
def fnExactBordaScoresRow : OpenClaim := { program := "ytpdhdnmcafjadaa", sum := "e9a712e82032ae63448ae3f42aa27db6be252727e287aa53d55259e4943ee6cb", func := "loop.example/g01987/laws.FnExactBordaScores", spec := "fnExactBordaScores", unfollowed := true, recurses := true, apart := false }
def FnExactBordaScoresSaid : Prop := fnExactBordaScoresRow.holds Try.pinned (OpenSpec.ofChange fnExactBordaScoresSpec)

/-- ITS FALSE NEIGHBOUR: 'it returns false'. Refute it at one input. -/
def fnExactBordaScoresWrong : ChangeSpec := { name := "fnExactBordaScores", fn := fun _ => fun
  | [d1, d2] => { results := [.lit (.bool false)], args := [d1, d2] }
  | _ => none }
def FnExactBordaScoresWrongFalsely : Prop := fnExactBordaScoresRow.holds Try.pinned (OpenSpec.ofChange fnExactBordaScoresWrong)

/-- 'laws.FnExactVetoFree': WHATEVER THE INPUT: true; the input reads as it did. -/
def fnExactVetoFreeSpec : ChangeSpec := { name := "fnExactVetoFree", fn := fun _ => fun
  | [d1, d2, d3] => { results := [.lit (.bool true)], args := [d1, d2, d3] }
  | _ => none }
def fnExactVetoFreeRow : OpenClaim := { program := "ytpdhdnmcafjadaa", sum := "e9a712e82032ae63448ae3f42aa27db6be252727e287aa53d55259e4943ee6cb", func := "loop.example/g01987/laws.FnExactVetoFree", spec := "fnExactVetoFree", unfollowed := true, recurses := true, apart := false }
def FnExactVetoFreeSaid : Prop := fnExactVetoFreeRow.holds Try.pinned (OpenSpec.ofChange fnExactVetoFreeSpec)

/-- ITS FALSE NEIGHBOUR: 'it returns false'. Refute it at one input. -/
def fnExactVetoFreeWrong : ChangeSpec := { name := "fnExactVetoFree", fn := fun _ => fun
  | [d1, d2, d3] => { results := [.lit (.bool false)], args := [d1, d2, d3] }
  | _ => none }
def FnExactVetoFreeWrongFalsely : Prop := fnExactVetoFreeRow.holds Try.pinned (OpenSpec.ofChange fnExactVetoFreeWrong)

/-- 'laws.FnExactGroupChoice': WHATEVER THE INPUT: true; the input reads as it did. -/
def fnExactGroupChoiceSpec : ChangeSpec := { name := "fnExactGroupChoice", fn := fun _ => fun
  | [d1, d2, d3] => { results := [.lit (.bool true)], args := [d1, d2, d3] }
  | _ => none }
def fnExactGroupChoiceRow : OpenClaim := { program := "ytpdhdnmcafjadaa", sum := "e9a712e82032ae63448ae3f42aa27db6be252727e287aa53d55259e4943ee6cb", func := "loop.example/g01987/laws.FnExactGroupChoice", spec := "fnExactGroupChoice", unfollowed := true, recurses := true, apart := false }
def FnExactGroupChoiceSaid : Prop := fnExactGroupChoiceRow.holds Try.pinned (OpenSpec.ofChange fnExactGroupChoiceSpec)

/-- ITS FALSE NEIGHBOUR: 'it returns false'. Refute it at one input. -/
def fnExactGroupChoiceWrong : ChangeSpec := { name := "fnExactGroupChoice", fn := fun _ => fun
  | [d1, d2, d3] => { results := [.lit (.bool false)], args := [d1, d2, d3] }
  | _ => none }
def FnExactGroupChoiceWrongFalsely : Prop := fnExactGroupChoiceRow.holds Try.pinned (OpenSpec.ofChange fnExactGroupChoiceWrong)

/-- 'laws.FnGroups': WHATEVER THE INPUT: true; the input reads as it did. -/
def fnGroupsSpec : ChangeSpec := { name := "fnGroups", fn := fun _ => fun
  | [d] => { results := [.lit (.bool true)], args := [d] }
  | _ => none }
def fnGroupsRow : OpenClaim := { program := "ytpdhdnmcafjadaa", sum := "e9a712e82032ae63448ae3f42aa27db6be252727e287aa53d55259e4943ee6cb", func := "loop.example/g01987/laws.FnGroups", spec := "fnGroups", unfollowed := true, recurses := true, apart := false }
def FnGroupsSaid : Prop := fnGroupsRow.holds Try.pinned (OpenSpec.ofChange fnGroupsSpec)

/-- ITS FALSE NEIGHBOUR: 'it returns false'. Refute it at one input. -/
def fnGroupsWrong : ChangeSpec := { name := "fnGroups", fn := fun _ => fun
  | [d] => { results := [.lit (.bool false)], args := [d] }
  | _ => none }
def FnGroupsWrongFalsely : Prop := fnGroupsRow.holds Try.pinned (OpenSpec.ofChange fnGroupsWrong)

/-- 'laws.FnExactLayerOf': WHATEVER THE INPUT: true; the input reads as it did. -/
def fnExactLayerOfSpec : ChangeSpec := { name := "fnExactLayerOf", fn := fun _ => fun
  | [d1, d2, d3] => { results := [.lit (.bool true)], args := [d1, d2, d3] }
  | _ => none }
def fnExactLayerOfRow : OpenClaim := { program := "ytpdhdnmcafjadaa", sum := "e9a712e82032ae63448ae3f42aa27db6be252727e287aa53d55259e4943ee6cb", func := "loop.example/g01987/laws.FnExactLayerOf", spec := "fnExactLayerOf", unfollowed := true, recurses := true, apart := false }
def FnExactLayerOfSaid : Prop := fnExactLayerOfRow.holds Try.pinned (OpenSpec.ofChange fnExactLayerOfSpec)

/-- ITS FALSE NEIGHBOUR: 'it returns false'. Refute it at one input. -/
def fnExactLayerOfWrong : ChangeSpec := { name := "fnExactLayerOf", fn := fun _ => fun
  | [d1, d2, d3] => { results := [.lit (.bool false)], args := [d1, d2, d3] }
  | _ => none }
def FnExactLayerOfWrongFalsely : Prop := fnExactLayerOfRow.holds Try.pinned (OpenSpec.ofChange fnExactLayerOfWrong)

/-- 'laws.FnExactLayersOf': WHATEVER THE INPUT: true; the input reads as it did. -/
def fnExactLayersOfSpec : ChangeSpec := { name := "fnExactLayersOf", fn := fun _ => fun
  | [d1, d2] => { results := [.lit (.bool true)], args := [d1, d2] }
  | _ => none }
def fnExactLayersOfRow : OpenClaim := { program := "ytpdhdnmcafjadaa", sum := "e9a712e82032ae63448ae3f42aa27db6be252727e287aa53d55259e4943ee6cb", func := "loop.example/g01987/laws.FnExactLayersOf", spec := "fnExactLayersOf", apart := false }
def FnExactLayersOfSaid : Prop := fnExactLayersOfRow.holds Try.pinned (OpenSpec.ofChange fnExactLayersOfSpec)

/-- ITS FALSE NEIGHBOUR: 'it returns false'. Refute it at one input. -/
def fnExactLayersOfWrong : ChangeSpec := { name := "fnExactLayersOf", fn := fun _ => fun
  | [d1, d2] => { results := [.lit (.bool false)], args := [d1, d2] }
  | _ => none }
def FnExactLayersOfWrongFalsely : Prop := fnExactLayersOfRow.holds Try.pinned (OpenSpec.ofChange fnExactLayersOfWrong)

/-- 'laws.FnExactChainTo': WHATEVER THE INPUT: true; the input reads as it did. -/
def fnExactChainToSpec : ChangeSpec := { name := "fnExactChainTo", fn := fun _ => fun
  | [d1, d2, d3] => { results := [.lit (.bool true)], args := [d1, d2, d3] }
  | _ => none }
def fnExactChainToRow : OpenClaim := { program := "ytpdhdnmcafjadaa", sum := "e9a712e82032ae63448ae3f42aa27db6be252727e287aa53d55259e4943ee6cb", func := "loop.example/g01987/laws.FnExactChainTo", spec := "fnExactChainTo", unfollowed := true, recurses := true, apart := false }
def FnExactChainToSaid : Prop := fnExactChainToRow.holds Try.pinned (OpenSpec.ofChange fnExactChainToSpec)

/-- ITS FALSE NEIGHBOUR: 'it returns false'. Refute it at one input. -/
def fnExactChainToWrong : ChangeSpec := { name := "fnExactChainTo", fn := fun _ => fun
  | [d1, d2, d3] => { results := [.lit (.bool false)], args := [d1, d2, d3] }
  | _ => none }
def FnExactChainToWrongFalsely : Prop := fnExactChainToRow.holds Try.pinned (OpenSpec.ofChange fnExactChainToWrong)

/- THE SECOND FORM. 'bulk': how many values and letters a reading holds, each counted each time it is reached (what is shared counts as often as it is met; a slice's spare places count too). A statement '..UptoSaid' is the law's where the arguments, and the package variables that the reading takes, are together of bulk at most 1048576: NARROWER than '..Said'. Prove '..Said' where nothing that the law and all that it calls make is longer than what came in: it says more and counts as full. Else prove '..UptoSaid'. A law counts once. -/
mutual
def uptoBulk {H : Type} : DataW H → Nat
  | .lit (.string bytes) => bytes.length + 1
  | .lit _ => 1
  | .nil => 1
  | .ptr d => uptoBulk d + 1
  | .slice elems spare => uptoBulkAll elems + uptoBulkAll spare + 1
  | .agg parts => uptoBulkAll parts + 1
  | .iface _ d => uptoBulk d + 1
  | .map entries => uptoBulkEntries entries + 1
  | .held _ => 1
def uptoBulkAll {H : Type} : List (DataW H) → Nat
  | [] => 0
  | d :: r => uptoBulk d + uptoBulkAll r
def uptoBulkEntries {H : Type} : List (Lit × DataW H) → Nat
  | [] => 0
  | x :: r => uptoBulkEntry x + uptoBulkEntries r
def uptoBulkEntry {H : Type} : Lit × DataW H → Nat
  | (.string bytes, d) => bytes.length + uptoBulk d + 1
  | (_, d) => uptoBulk d + 1
 end
def uptoSmall : (H : Type) → List (DataW H) → Bool := fun _ ds => decide (uptoBulkAll ds ≤ 1048576)
def OpenSpec.upto (s : _root_.Go.ChangeSpec) : _root_.Go.OpenSpec := { _root_.Go.OpenSpec.ofChange s with cond := some uptoSmall }

/-- 'laws.FnBest', WHERE WHAT IT READS IS OF BULK AT MOST 1048576: true; the input reads as it did. -/
def fnBestUptoRow : OpenClaim := { program := "ytpdhdnmcafjadaa", sum := "e9a712e82032ae63448ae3f42aa27db6be252727e287aa53d55259e4943ee6cb", func := "loop.example/g01987/laws.FnBest", spec := "fnBest", unfollowed := true, recurses := true, apart := false, narrowed := true }
def FnBestUptoSaid : Prop := fnBestUptoRow.holds Try.pinned (OpenSpec.upto fnBestSpec)

/-- 'laws.FnExactCondorcetOf', WHERE WHAT IT READS IS OF BULK AT MOST 1048576: true; the input reads as it did. -/
def fnExactCondorcetOfUptoRow : OpenClaim := { program := "ytpdhdnmcafjadaa", sum := "e9a712e82032ae63448ae3f42aa27db6be252727e287aa53d55259e4943ee6cb", func := "loop.example/g01987/laws.FnExactCondorcetOf", spec := "fnExactCondorcetOf", unfollowed := true, recurses := true, apart := false, narrowed := true }
def FnExactCondorcetOfUptoSaid : Prop := fnExactCondorcetOfUptoRow.holds Try.pinned (OpenSpec.upto fnExactCondorcetOfSpec)

/-- 'laws.FnExactSkybandOf', WHERE WHAT IT READS IS OF BULK AT MOST 1048576: true; the input reads as it did. -/
def fnExactSkybandOfUptoRow : OpenClaim := { program := "ytpdhdnmcafjadaa", sum := "e9a712e82032ae63448ae3f42aa27db6be252727e287aa53d55259e4943ee6cb", func := "loop.example/g01987/laws.FnExactSkybandOf", spec := "fnExactSkybandOf", unfollowed := true, recurses := true, apart := false, narrowed := true }
def FnExactSkybandOfUptoSaid : Prop := fnExactSkybandOfUptoRow.holds Try.pinned (OpenSpec.upto fnExactSkybandOfSpec)

/-- 'laws.FnExactUnanimousBest', WHERE WHAT IT READS IS OF BULK AT MOST 1048576: true; the input reads as it did. -/
def fnExactUnanimousBestUptoRow : OpenClaim := { program := "ytpdhdnmcafjadaa", sum := "e9a712e82032ae63448ae3f42aa27db6be252727e287aa53d55259e4943ee6cb", func := "loop.example/g01987/laws.FnExactUnanimousBest", spec := "fnExactUnanimousBest", apart := false, narrowed := true }
def FnExactUnanimousBestUptoSaid : Prop := fnExactUnanimousBestUptoRow.holds Try.pinned (OpenSpec.upto fnExactUnanimousBestSpec)

/-- 'laws.FnExactApprovalScores', WHERE WHAT IT READS IS OF BULK AT MOST 1048576: true; the input reads as it did. -/
def fnExactApprovalScoresUptoRow : OpenClaim := { program := "ytpdhdnmcafjadaa", sum := "e9a712e82032ae63448ae3f42aa27db6be252727e287aa53d55259e4943ee6cb", func := "loop.example/g01987/laws.FnExactApprovalScores", spec := "fnExactApprovalScores", apart := false, narrowed := true }
def FnExactApprovalScoresUptoSaid : Prop := fnExactApprovalScoresUptoRow.holds Try.pinned (OpenSpec.upto fnExactApprovalScoresSpec)

/-- 'laws.FnExactBordaScores', WHERE WHAT IT READS IS OF BULK AT MOST 1048576: true; the input reads as it did. -/
def fnExactBordaScoresUptoRow : OpenClaim := { program := "ytpdhdnmcafjadaa", sum := "e9a712e82032ae63448ae3f42aa27db6be252727e287aa53d55259e4943ee6cb", func := "loop.example/g01987/laws.FnExactBordaScores", spec := "fnExactBordaScores", unfollowed := true, recurses := true, apart := false, narrowed := true }
def FnExactBordaScoresUptoSaid : Prop := fnExactBordaScoresUptoRow.holds Try.pinned (OpenSpec.upto fnExactBordaScoresSpec)

/-- 'laws.FnExactVetoFree', WHERE WHAT IT READS IS OF BULK AT MOST 1048576: true; the input reads as it did. -/
def fnExactVetoFreeUptoRow : OpenClaim := { program := "ytpdhdnmcafjadaa", sum := "e9a712e82032ae63448ae3f42aa27db6be252727e287aa53d55259e4943ee6cb", func := "loop.example/g01987/laws.FnExactVetoFree", spec := "fnExactVetoFree", unfollowed := true, recurses := true, apart := false, narrowed := true }
def FnExactVetoFreeUptoSaid : Prop := fnExactVetoFreeUptoRow.holds Try.pinned (OpenSpec.upto fnExactVetoFreeSpec)

/-- 'laws.FnExactGroupChoice', WHERE WHAT IT READS IS OF BULK AT MOST 1048576: true; the input reads as it did. -/
def fnExactGroupChoiceUptoRow : OpenClaim := { program := "ytpdhdnmcafjadaa", sum := "e9a712e82032ae63448ae3f42aa27db6be252727e287aa53d55259e4943ee6cb", func := "loop.example/g01987/laws.FnExactGroupChoice", spec := "fnExactGroupChoice", unfollowed := true, recurses := true, apart := false, narrowed := true }
def FnExactGroupChoiceUptoSaid : Prop := fnExactGroupChoiceUptoRow.holds Try.pinned (OpenSpec.upto fnExactGroupChoiceSpec)

/-- 'laws.FnGroups', WHERE WHAT IT READS IS OF BULK AT MOST 1048576: true; the input reads as it did. -/
def fnGroupsUptoRow : OpenClaim := { program := "ytpdhdnmcafjadaa", sum := "e9a712e82032ae63448ae3f42aa27db6be252727e287aa53d55259e4943ee6cb", func := "loop.example/g01987/laws.FnGroups", spec := "fnGroups", unfollowed := true, recurses := true, apart := false, narrowed := true }
def FnGroupsUptoSaid : Prop := fnGroupsUptoRow.holds Try.pinned (OpenSpec.upto fnGroupsSpec)

/-- 'laws.FnExactLayerOf', WHERE WHAT IT READS IS OF BULK AT MOST 1048576: true; the input reads as it did. -/
def fnExactLayerOfUptoRow : OpenClaim := { program := "ytpdhdnmcafjadaa", sum := "e9a712e82032ae63448ae3f42aa27db6be252727e287aa53d55259e4943ee6cb", func := "loop.example/g01987/laws.FnExactLayerOf", spec := "fnExactLayerOf", unfollowed := true, recurses := true, apart := false, narrowed := true }
def FnExactLayerOfUptoSaid : Prop := fnExactLayerOfUptoRow.holds Try.pinned (OpenSpec.upto fnExactLayerOfSpec)

/-- 'laws.FnExactLayersOf', WHERE WHAT IT READS IS OF BULK AT MOST 1048576: true; the input reads as it did. -/
def fnExactLayersOfUptoRow : OpenClaim := { program := "ytpdhdnmcafjadaa", sum := "e9a712e82032ae63448ae3f42aa27db6be252727e287aa53d55259e4943ee6cb", func := "loop.example/g01987/laws.FnExactLayersOf", spec := "fnExactLayersOf", apart := false, narrowed := true }
def FnExactLayersOfUptoSaid : Prop := fnExactLayersOfUptoRow.holds Try.pinned (OpenSpec.upto fnExactLayersOfSpec)

/-- 'laws.FnExactChainTo', WHERE WHAT IT READS IS OF BULK AT MOST 1048576: true; the input reads as it did. -/
def fnExactChainToUptoRow : OpenClaim := { program := "ytpdhdnmcafjadaa", sum := "e9a712e82032ae63448ae3f42aa27db6be252727e287aa53d55259e4943ee6cb", func := "loop.example/g01987/laws.FnExactChainTo", spec := "fnExactChainTo", unfollowed := true, recurses := true, apart := false, narrowed := true }
def FnExactChainToUptoSaid : Prop := fnExactChainToUptoRow.holds Try.pinned (OpenSpec.upto fnExactChainToSpec)

end Rows
end Go.Proofs.Ytpdhdnmcafjadaa
