/-
  No cell of these rows narrows 'for every input' (looked for: loops, veiled, ifaces, maps, wideKeys, modest, calm, conditions, laid).
  DERIVED. THE GIVEN ROWS OF THIS SEAT. 12 by the template 'for every input the law returns true; each argument reads behind the call as it read before'; 0 by the template 'total and deterministic' (their statements: YtajjolkpgfegfaaTotals.lean).
  GIVEN WITH THE SEED: the statements are not yours to turn. If you find one false, say at which input.
  Laid BY PROGRAM, IN A SANDBOX (cutbox-rows.mjs): the forced cells as the released guide's own fill.sh prints them over the translation a7c515de95decb65… (all of the seat's roots in one cut). By AI agents, Wed Nov 11 2026. No macro, syntax, notation, axiom, sorry.
-/
import Derived.Test.YtajjolkpgfegfaaChecked
import GoSem.Claim
import GoSem.ClaimJoined
import GoSem.ClaimMapViews
import Derived.JoinedTies
import Derived.KernelRfl
namespace Go.Proofs.Ytajjolkpgfegfaa
/- THE CELL 'sum', in the pinned program and in every row, IS THE sha256 OF THE DUMP (.gsa) THAT YtajjolkpgfegfaaProg.lean LOADS. Nothing in Lean hashes anything: it is a label: what it is worth is what the hold of that sum in a sandbox is worth. -/
noncomputable def Try.pinned : Pinned := { name := "ytajjolkpgfegfaa", sum := "a7c515de95decb654197c645b2474bc3ee650c7c42076aaedb95996891dc23d2", checked := Try.checked }
namespace Rows
def none {H : Type} : Left H := { results := [], args := [] }

/-- 'laws.FnExactCountSimplePaths': WHATEVER THE INPUT: true; the input reads as it did. -/
def fnExactCountSimplePathsSpec : ChangeSpec := { name := "fnExactCountSimplePaths", fn := fun _ => fun
  | [d1, d2, d3, d4] => { results := [.lit (.bool true)], args := [d1, d2, d3, d4] }
  | _ => none }
def fnExactCountSimplePathsRow : OpenClaim := { program := "ytajjolkpgfegfaa", sum := "a7c515de95decb654197c645b2474bc3ee650c7c42076aaedb95996891dc23d2", func := "loop.example/g01922/laws.FnExactCountSimplePaths", spec := "fnExactCountSimplePaths", recurses := true, apart := false }
def FnExactCountSimplePathsSaid : Prop := fnExactCountSimplePathsRow.holds Try.pinned (OpenSpec.ofChange fnExactCountSimplePathsSpec)

/-- ITS FALSE NEIGHBOUR: 'it returns false'. Refute it at one input. -/
def fnExactCountSimplePathsWrong : ChangeSpec := { name := "fnExactCountSimplePaths", fn := fun _ => fun
  | [d1, d2, d3, d4] => { results := [.lit (.bool false)], args := [d1, d2, d3, d4] }
  | _ => none }
def FnExactCountSimplePathsWrongFalsely : Prop := fnExactCountSimplePathsRow.holds Try.pinned (OpenSpec.ofChange fnExactCountSimplePathsWrong)

/-- 'laws.FnExactDistancesFrom': WHATEVER THE INPUT: true; the input reads as it did. -/
def fnExactDistancesFromSpec : ChangeSpec := { name := "fnExactDistancesFrom", fn := fun _ => fun
  | [d1, d2, d3] => { results := [.lit (.bool true)], args := [d1, d2, d3] }
  | _ => none }
def fnExactDistancesFromRow : OpenClaim := { program := "ytajjolkpgfegfaa", sum := "a7c515de95decb654197c645b2474bc3ee650c7c42076aaedb95996891dc23d2", func := "loop.example/g01922/laws.FnExactDistancesFrom", spec := "fnExactDistancesFrom", apart := false }
def FnExactDistancesFromSaid : Prop := fnExactDistancesFromRow.holds Try.pinned (OpenSpec.ofChange fnExactDistancesFromSpec)

/-- ITS FALSE NEIGHBOUR: 'it returns false'. Refute it at one input. -/
def fnExactDistancesFromWrong : ChangeSpec := { name := "fnExactDistancesFrom", fn := fun _ => fun
  | [d1, d2, d3] => { results := [.lit (.bool false)], args := [d1, d2, d3] }
  | _ => none }
def FnExactDistancesFromWrongFalsely : Prop := fnExactDistancesFromRow.holds Try.pinned (OpenSpec.ofChange fnExactDistancesFromWrong)

/-- 'laws.FnExactDistancesTo': WHATEVER THE INPUT: true; the input reads as it did. -/
def fnExactDistancesToSpec : ChangeSpec := { name := "fnExactDistancesTo", fn := fun _ => fun
  | [d1, d2, d3] => { results := [.lit (.bool true)], args := [d1, d2, d3] }
  | _ => none }
def fnExactDistancesToRow : OpenClaim := { program := "ytajjolkpgfegfaa", sum := "a7c515de95decb654197c645b2474bc3ee650c7c42076aaedb95996891dc23d2", func := "loop.example/g01922/laws.FnExactDistancesTo", spec := "fnExactDistancesTo", apart := false }
def FnExactDistancesToSaid : Prop := fnExactDistancesToRow.holds Try.pinned (OpenSpec.ofChange fnExactDistancesToSpec)

/-- ITS FALSE NEIGHBOUR: 'it returns false'. Refute it at one input. -/
def fnExactDistancesToWrong : ChangeSpec := { name := "fnExactDistancesTo", fn := fun _ => fun
  | [d1, d2, d3] => { results := [.lit (.bool false)], args := [d1, d2, d3] }
  | _ => none }
def FnExactDistancesToWrongFalsely : Prop := fnExactDistancesToRow.holds Try.pinned (OpenSpec.ofChange fnExactDistancesToWrong)

/-- 'laws.FnExactReachableProduct': WHATEVER THE INPUT: true; the input reads as it did. -/
def fnExactReachableProductSpec : ChangeSpec := { name := "fnExactReachableProduct", fn := fun _ => fun
  | [d1, d2, d3] => { results := [.lit (.bool true)], args := [d1, d2, d3] }
  | _ => none }
def fnExactReachableProductRow : OpenClaim := { program := "ytajjolkpgfegfaa", sum := "a7c515de95decb654197c645b2474bc3ee650c7c42076aaedb95996891dc23d2", func := "loop.example/g01922/laws.FnExactReachableProduct", spec := "fnExactReachableProduct", apart := false }
def FnExactReachableProductSaid : Prop := fnExactReachableProductRow.holds Try.pinned (OpenSpec.ofChange fnExactReachableProductSpec)

/-- ITS FALSE NEIGHBOUR: 'it returns false'. Refute it at one input. -/
def fnExactReachableProductWrong : ChangeSpec := { name := "fnExactReachableProduct", fn := fun _ => fun
  | [d1, d2, d3] => { results := [.lit (.bool false)], args := [d1, d2, d3] }
  | _ => none }
def FnExactReachableProductWrongFalsely : Prop := fnExactReachableProductRow.holds Try.pinned (OpenSpec.ofChange fnExactReachableProductWrong)

/-- 'laws.FnExactUsefulProduct': WHATEVER THE INPUT: true; the input reads as it did. -/
def fnExactUsefulProductSpec : ChangeSpec := { name := "fnExactUsefulProduct", fn := fun _ => fun
  | [d1, d2, d3, d4] => { results := [.lit (.bool true)], args := [d1, d2, d3, d4] }
  | _ => none }
def fnExactUsefulProductRow : OpenClaim := { program := "ytajjolkpgfegfaa", sum := "a7c515de95decb654197c645b2474bc3ee650c7c42076aaedb95996891dc23d2", func := "loop.example/g01922/laws.FnExactUsefulProduct", spec := "fnExactUsefulProduct", unfollowed := true, recurses := true, apart := false }
def FnExactUsefulProductSaid : Prop := fnExactUsefulProductRow.holds Try.pinned (OpenSpec.ofChange fnExactUsefulProductSpec)

/-- ITS FALSE NEIGHBOUR: 'it returns false'. Refute it at one input. -/
def fnExactUsefulProductWrong : ChangeSpec := { name := "fnExactUsefulProduct", fn := fun _ => fun
  | [d1, d2, d3, d4] => { results := [.lit (.bool false)], args := [d1, d2, d3, d4] }
  | _ => none }
def FnExactUsefulProductWrongFalsely : Prop := fnExactUsefulProductRow.holds Try.pinned (OpenSpec.ofChange fnExactUsefulProductWrong)

/-- 'laws.FnExactDistanceTable': WHATEVER THE INPUT: true; the input reads as it did. -/
def fnExactDistanceTableSpec : ChangeSpec := { name := "fnExactDistanceTable", fn := fun _ => fun
  | [d1, d2] => { results := [.lit (.bool true)], args := [d1, d2] }
  | _ => none }
def fnExactDistanceTableRow : OpenClaim := { program := "ytajjolkpgfegfaa", sum := "a7c515de95decb654197c645b2474bc3ee650c7c42076aaedb95996891dc23d2", func := "loop.example/g01922/laws.FnExactDistanceTable", spec := "fnExactDistanceTable", apart := false }
def FnExactDistanceTableSaid : Prop := fnExactDistanceTableRow.holds Try.pinned (OpenSpec.ofChange fnExactDistanceTableSpec)

/-- ITS FALSE NEIGHBOUR: 'it returns false'. Refute it at one input. -/
def fnExactDistanceTableWrong : ChangeSpec := { name := "fnExactDistanceTable", fn := fun _ => fun
  | [d1, d2] => { results := [.lit (.bool false)], args := [d1, d2] }
  | _ => none }
def FnExactDistanceTableWrongFalsely : Prop := fnExactDistanceTableRow.holds Try.pinned (OpenSpec.ofChange fnExactDistanceTableWrong)

/-- 'laws.FnExactMeetingPoints': WHATEVER THE INPUT: true; the input reads as it did. -/
def fnExactMeetingPointsSpec : ChangeSpec := { name := "fnExactMeetingPoints", fn := fun _ => fun
  | [d1, d2, d3, d4, d5] => { results := [.lit (.bool true)], args := [d1, d2, d3, d4, d5] }
  | _ => none }
def fnExactMeetingPointsRow : OpenClaim := { program := "ytajjolkpgfegfaa", sum := "a7c515de95decb654197c645b2474bc3ee650c7c42076aaedb95996891dc23d2", func := "loop.example/g01922/laws.FnExactMeetingPoints", spec := "fnExactMeetingPoints", apart := false }
def FnExactMeetingPointsSaid : Prop := fnExactMeetingPointsRow.holds Try.pinned (OpenSpec.ofChange fnExactMeetingPointsSpec)

/-- ITS FALSE NEIGHBOUR: 'it returns false'. Refute it at one input. -/
def fnExactMeetingPointsWrong : ChangeSpec := { name := "fnExactMeetingPoints", fn := fun _ => fun
  | [d1, d2, d3, d4, d5] => { results := [.lit (.bool false)], args := [d1, d2, d3, d4, d5] }
  | _ => none }
def FnExactMeetingPointsWrongFalsely : Prop := fnExactMeetingPointsRow.holds Try.pinned (OpenSpec.ofChange fnExactMeetingPointsWrong)

/-- 'laws.FnExactStatesAlong': WHATEVER THE INPUT: true; the input reads as it did. -/
def fnExactStatesAlongSpec : ChangeSpec := { name := "fnExactStatesAlong", fn := fun _ => fun
  | [d1, d2, d3] => { results := [.lit (.bool true)], args := [d1, d2, d3] }
  | _ => none }
def fnExactStatesAlongRow : OpenClaim := { program := "ytajjolkpgfegfaa", sum := "a7c515de95decb654197c645b2474bc3ee650c7c42076aaedb95996891dc23d2", func := "loop.example/g01922/laws.FnExactStatesAlong", spec := "fnExactStatesAlong", unfollowed := true, recurses := true, apart := false }
def FnExactStatesAlongSaid : Prop := fnExactStatesAlongRow.holds Try.pinned (OpenSpec.ofChange fnExactStatesAlongSpec)

/-- ITS FALSE NEIGHBOUR: 'it returns false'. Refute it at one input. -/
def fnExactStatesAlongWrong : ChangeSpec := { name := "fnExactStatesAlong", fn := fun _ => fun
  | [d1, d2, d3] => { results := [.lit (.bool false)], args := [d1, d2, d3] }
  | _ => none }
def FnExactStatesAlongWrongFalsely : Prop := fnExactStatesAlongRow.holds Try.pinned (OpenSpec.ofChange fnExactStatesAlongWrong)

/-- 'laws.FnExactAnswersFrom': WHATEVER THE INPUT: true; the input reads as it did. -/
def fnExactAnswersFromSpec : ChangeSpec := { name := "fnExactAnswersFrom", fn := fun _ => fun
  | [d1, d2, d3] => { results := [.lit (.bool true)], args := [d1, d2, d3] }
  | _ => none }
def fnExactAnswersFromRow : OpenClaim := { program := "ytajjolkpgfegfaa", sum := "a7c515de95decb654197c645b2474bc3ee650c7c42076aaedb95996891dc23d2", func := "loop.example/g01922/laws.FnExactAnswersFrom", spec := "fnExactAnswersFrom", recurses := true, apart := false }
def FnExactAnswersFromSaid : Prop := fnExactAnswersFromRow.holds Try.pinned (OpenSpec.ofChange fnExactAnswersFromSpec)

/-- ITS FALSE NEIGHBOUR: 'it returns false'. Refute it at one input. -/
def fnExactAnswersFromWrong : ChangeSpec := { name := "fnExactAnswersFrom", fn := fun _ => fun
  | [d1, d2, d3] => { results := [.lit (.bool false)], args := [d1, d2, d3] }
  | _ => none }
def FnExactAnswersFromWrongFalsely : Prop := fnExactAnswersFromRow.holds Try.pinned (OpenSpec.ofChange fnExactAnswersFromWrong)

/-- 'laws.FnExactAnswersTo': WHATEVER THE INPUT: true; the input reads as it did. -/
def fnExactAnswersToSpec : ChangeSpec := { name := "fnExactAnswersTo", fn := fun _ => fun
  | [d1, d2, d3] => { results := [.lit (.bool true)], args := [d1, d2, d3] }
  | _ => none }
def fnExactAnswersToRow : OpenClaim := { program := "ytajjolkpgfegfaa", sum := "a7c515de95decb654197c645b2474bc3ee650c7c42076aaedb95996891dc23d2", func := "loop.example/g01922/laws.FnExactAnswersTo", spec := "fnExactAnswersTo", recurses := true, apart := false }
def FnExactAnswersToSaid : Prop := fnExactAnswersToRow.holds Try.pinned (OpenSpec.ofChange fnExactAnswersToSpec)

/-- ITS FALSE NEIGHBOUR: 'it returns false'. Refute it at one input. -/
def fnExactAnswersToWrong : ChangeSpec := { name := "fnExactAnswersTo", fn := fun _ => fun
  | [d1, d2, d3] => { results := [.lit (.bool false)], args := [d1, d2, d3] }
  | _ => none }
def FnExactAnswersToWrongFalsely : Prop := fnExactAnswersToRow.holds Try.pinned (OpenSpec.ofChange fnExactAnswersToWrong)

/-- 'laws.FnExactAllAnswers': WHATEVER THE INPUT: true; the input reads as it did. -/
def fnExactAllAnswersSpec : ChangeSpec := { name := "fnExactAllAnswers", fn := fun _ => fun
  | [d1, d2] => { results := [.lit (.bool true)], args := [d1, d2] }
  | _ => none }
def fnExactAllAnswersRow : OpenClaim := { program := "ytajjolkpgfegfaa", sum := "a7c515de95decb654197c645b2474bc3ee650c7c42076aaedb95996891dc23d2", func := "loop.example/g01922/laws.FnExactAllAnswers", spec := "fnExactAllAnswers", recurses := true, apart := false }
def FnExactAllAnswersSaid : Prop := fnExactAllAnswersRow.holds Try.pinned (OpenSpec.ofChange fnExactAllAnswersSpec)

/-- ITS FALSE NEIGHBOUR: 'it returns false'. Refute it at one input. -/
def fnExactAllAnswersWrong : ChangeSpec := { name := "fnExactAllAnswers", fn := fun _ => fun
  | [d1, d2] => { results := [.lit (.bool false)], args := [d1, d2] }
  | _ => none }
def FnExactAllAnswersWrongFalsely : Prop := fnExactAllAnswersRow.holds Try.pinned (OpenSpec.ofChange fnExactAllAnswersWrong)

/-- 'laws.FnExactCutCycles': WHATEVER THE INPUT: true; the input reads as it did. -/
def fnExactCutCyclesSpec : ChangeSpec := { name := "fnExactCutCycles", fn := fun _ => fun
  | [d1, d2] => { results := [.lit (.bool true)], args := [d1, d2] }
  | _ => none }
def fnExactCutCyclesRow : OpenClaim := { program := "ytajjolkpgfegfaa", sum := "a7c515de95decb654197c645b2474bc3ee650c7c42076aaedb95996891dc23d2", func := "loop.example/g01922/laws.FnExactCutCycles", spec := "fnExactCutCycles", unfollowed := true, recurses := true, apart := false }
def FnExactCutCyclesSaid : Prop := fnExactCutCyclesRow.holds Try.pinned (OpenSpec.ofChange fnExactCutCyclesSpec)

/-- ITS FALSE NEIGHBOUR: 'it returns false'. Refute it at one input. -/
def fnExactCutCyclesWrong : ChangeSpec := { name := "fnExactCutCycles", fn := fun _ => fun
  | [d1, d2] => { results := [.lit (.bool false)], args := [d1, d2] }
  | _ => none }
def FnExactCutCyclesWrongFalsely : Prop := fnExactCutCyclesRow.holds Try.pinned (OpenSpec.ofChange fnExactCutCyclesWrong)

/- THE SECOND FORM. 'bulk': how many values and letters a reading holds, each counted each time it is reached (what is shared counts as often as it is met; a slice's spare places count too). A statement '..UptoSaid' is the law's where the arguments, and the package variables that the reading takes, are together of bulk at most 1048576: NARROWER than '..Said'. Prove '..Said' where nothing that the law and all that it calls make is longer than what came in: it says more and counts as full. Else prove '..UptoSaid'. A law counts once. -/
mutual
def uptoBulk {H : Type} : DataW H → Nat
  | .lit (.string bytes) => bytes.length + 1
  | .lit _ => 1
  | .nil => 1
  | .ptr d => uptoBulk d + 1
  | .slice elems spare => uptoBulkAll elems + uptoBulkAll spare + 1
  | .agg parts => uptoBulkAll parts + 1
  | .iface _ d => uptoBulk d + 1
  | .map entries => uptoBulkEntries entries + 1
  | .held _ => 1
def uptoBulkAll {H : Type} : List (DataW H) → Nat
  | [] => 0
  | d :: r => uptoBulk d + uptoBulkAll r
def uptoBulkEntries {H : Type} : List (Lit × DataW H) → Nat
  | [] => 0
  | x :: r => uptoBulkEntry x + uptoBulkEntries r
def uptoBulkEntry {H : Type} : Lit × DataW H → Nat
  | (.string bytes, d) => bytes.length + uptoBulk d + 1
  | (_, d) => uptoBulk d + 1
 end
def uptoSmall : (H : Type) → List (DataW H) → Bool := fun _ ds => decide (uptoBulkAll ds ≤ 1048576)
def OpenSpec.upto (s : _root_.Go.ChangeSpec) : _root_.Go.OpenSpec := { _root_.Go.OpenSpec.ofChange s with cond := some uptoSmall }

/-- 'laws.FnExactCountSimplePaths', WHERE WHAT IT READS IS OF BULK AT MOST 1048576: true; the input reads as it did. -/
def fnExactCountSimplePathsUptoRow : OpenClaim := { program := "ytajjolkpgfegfaa", sum := "a7c515de95decb654197c645b2474bc3ee650c7c42076aaedb95996891dc23d2", func := "loop.example/g01922/laws.FnExactCountSimplePaths", spec := "fnExactCountSimplePaths", recurses := true, apart := false, narrowed := true }
def FnExactCountSimplePathsUptoSaid : Prop := fnExactCountSimplePathsUptoRow.holds Try.pinned (OpenSpec.upto fnExactCountSimplePathsSpec)

/-- 'laws.FnExactDistancesFrom', WHERE WHAT IT READS IS OF BULK AT MOST 1048576: true; the input reads as it did. -/
def fnExactDistancesFromUptoRow : OpenClaim := { program := "ytajjolkpgfegfaa", sum := "a7c515de95decb654197c645b2474bc3ee650c7c42076aaedb95996891dc23d2", func := "loop.example/g01922/laws.FnExactDistancesFrom", spec := "fnExactDistancesFrom", apart := false, narrowed := true }
def FnExactDistancesFromUptoSaid : Prop := fnExactDistancesFromUptoRow.holds Try.pinned (OpenSpec.upto fnExactDistancesFromSpec)

/-- 'laws.FnExactDistancesTo', WHERE WHAT IT READS IS OF BULK AT MOST 1048576: true; the input reads as it did. -/
def fnExactDistancesToUptoRow : OpenClaim := { program := "ytajjolkpgfegfaa", sum := "a7c515de95decb654197c645b2474bc3ee650c7c42076aaedb95996891dc23d2", func := "loop.example/g01922/laws.FnExactDistancesTo", spec := "fnExactDistancesTo", apart := false, narrowed := true }
def FnExactDistancesToUptoSaid : Prop := fnExactDistancesToUptoRow.holds Try.pinned (OpenSpec.upto fnExactDistancesToSpec)

/-- 'laws.FnExactReachableProduct', WHERE WHAT IT READS IS OF BULK AT MOST 1048576: true; the input reads as it did. -/
def fnExactReachableProductUptoRow : OpenClaim := { program := "ytajjolkpgfegfaa", sum := "a7c515de95decb654197c645b2474bc3ee650c7c42076aaedb95996891dc23d2", func := "loop.example/g01922/laws.FnExactReachableProduct", spec := "fnExactReachableProduct", apart := false, narrowed := true }
def FnExactReachableProductUptoSaid : Prop := fnExactReachableProductUptoRow.holds Try.pinned (OpenSpec.upto fnExactReachableProductSpec)

/-- 'laws.FnExactUsefulProduct', WHERE WHAT IT READS IS OF BULK AT MOST 1048576: true; the input reads as it did. -/
def fnExactUsefulProductUptoRow : OpenClaim := { program := "ytajjolkpgfegfaa", sum := "a7c515de95decb654197c645b2474bc3ee650c7c42076aaedb95996891dc23d2", func := "loop.example/g01922/laws.FnExactUsefulProduct", spec := "fnExactUsefulProduct", unfollowed := true, recurses := true, apart := false, narrowed := true }
def FnExactUsefulProductUptoSaid : Prop := fnExactUsefulProductUptoRow.holds Try.pinned (OpenSpec.upto fnExactUsefulProductSpec)

/-- 'laws.FnExactDistanceTable', WHERE WHAT IT READS IS OF BULK AT MOST 1048576: true; the input reads as it did. -/
def fnExactDistanceTableUptoRow : OpenClaim := { program := "ytajjolkpgfegfaa", sum := "a7c515de95decb654197c645b2474bc3ee650c7c42076aaedb95996891dc23d2", func := "loop.example/g01922/laws.FnExactDistanceTable", spec := "fnExactDistanceTable", apart := false, narrowed := true }
def FnExactDistanceTableUptoSaid : Prop := fnExactDistanceTableUptoRow.holds Try.pinned (OpenSpec.upto fnExactDistanceTableSpec)

/-- 'laws.FnExactMeetingPoints', WHERE WHAT IT READS IS OF BULK AT MOST 1048576: true; the input reads as it did. -/
def fnExactMeetingPointsUptoRow : OpenClaim := { program := "ytajjolkpgfegfaa", sum := "a7c515de95decb654197c645b2474bc3ee650c7c42076aaedb95996891dc23d2", func := "loop.example/g01922/laws.FnExactMeetingPoints", spec := "fnExactMeetingPoints", apart := false, narrowed := true }
def FnExactMeetingPointsUptoSaid : Prop := fnExactMeetingPointsUptoRow.holds Try.pinned (OpenSpec.upto fnExactMeetingPointsSpec)

/-- 'laws.FnExactStatesAlong', WHERE WHAT IT READS IS OF BULK AT MOST 1048576: true; the input reads as it did. -/
def fnExactStatesAlongUptoRow : OpenClaim := { program := "ytajjolkpgfegfaa", sum := "a7c515de95decb654197c645b2474bc3ee650c7c42076aaedb95996891dc23d2", func := "loop.example/g01922/laws.FnExactStatesAlong", spec := "fnExactStatesAlong", unfollowed := true, recurses := true, apart := false, narrowed := true }
def FnExactStatesAlongUptoSaid : Prop := fnExactStatesAlongUptoRow.holds Try.pinned (OpenSpec.upto fnExactStatesAlongSpec)

/-- 'laws.FnExactAnswersFrom', WHERE WHAT IT READS IS OF BULK AT MOST 1048576: true; the input reads as it did. -/
def fnExactAnswersFromUptoRow : OpenClaim := { program := "ytajjolkpgfegfaa", sum := "a7c515de95decb654197c645b2474bc3ee650c7c42076aaedb95996891dc23d2", func := "loop.example/g01922/laws.FnExactAnswersFrom", spec := "fnExactAnswersFrom", recurses := true, apart := false, narrowed := true }
def FnExactAnswersFromUptoSaid : Prop := fnExactAnswersFromUptoRow.holds Try.pinned (OpenSpec.upto fnExactAnswersFromSpec)

/-- 'laws.FnExactAnswersTo', WHERE WHAT IT READS IS OF BULK AT MOST 1048576: true; the input reads as it did. -/
def fnExactAnswersToUptoRow : OpenClaim := { program := "ytajjolkpgfegfaa", sum := "a7c515de95decb654197c645b2474bc3ee650c7c42076aaedb95996891dc23d2", func := "loop.example/g01922/laws.FnExactAnswersTo", spec := "fnExactAnswersTo", recurses := true, apart := false, narrowed := true }
def FnExactAnswersToUptoSaid : Prop := fnExactAnswersToUptoRow.holds Try.pinned (OpenSpec.upto fnExactAnswersToSpec)

/-- 'laws.FnExactAllAnswers', WHERE WHAT IT READS IS OF BULK AT MOST 1048576: true; the input reads as it did. -/
def fnExactAllAnswersUptoRow : OpenClaim := { program := "ytajjolkpgfegfaa", sum := "a7c515de95decb654197c645b2474bc3ee650c7c42076aaedb95996891dc23d2", func := "loop.example/g01922/laws.FnExactAllAnswers", spec := "fnExactAllAnswers", recurses := true, apart := false, narrowed := true }
def FnExactAllAnswersUptoSaid : Prop := fnExactAllAnswersUptoRow.holds Try.pinned (OpenSpec.upto fnExactAllAnswersSpec)

/-- 'laws.FnExactCutCycles', WHERE WHAT IT READS IS OF BULK AT MOST 1048576: true; the input reads as it did. -/
def fnExactCutCyclesUptoRow : OpenClaim := { program := "ytajjolkpgfegfaa", sum := "a7c515de95decb654197c645b2474bc3ee650c7c42076aaedb95996891dc23d2", func := "loop.example/g01922/laws.FnExactCutCycles", spec := "fnExactCutCycles", unfollowed := true, recurses := true, apart := false, narrowed := true }
def FnExactCutCyclesUptoSaid : Prop := fnExactCutCyclesUptoRow.holds Try.pinned (OpenSpec.upto fnExactCutCyclesSpec)

end Rows
end Go.Proofs.Ytajjolkpgfegfaa
