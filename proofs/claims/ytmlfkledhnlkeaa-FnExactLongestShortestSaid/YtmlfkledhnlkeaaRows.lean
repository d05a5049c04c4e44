/-
  No cell of these rows narrows 'for every input' (looked for: loops, veiled, ifaces, maps, wideKeys, modest, calm, conditions, laid).
  DERIVED. THE GIVEN ROWS OF THIS SEAT. 12 by the template 'for every input the law returns true; each argument reads behind the call as it read before'; 0 by the template 'total and deterministic' (their statements: YtmlfkledhnlkeaaTotals.lean).
  GIVEN WITH THE SEED: the statements are not yours to turn. If you find one false, say at which input.
  Laid BY PROGRAM, IN A SANDBOX (cutbox-rows.mjs): the forced cells as the released guide's own fill.sh prints them over the translation fda65d65d47884e6… (all of the seat's roots in one cut). By AI agents, Wed Nov 11 2026. No macro, syntax, notation, axiom, sorry.
-/
import Derived.Test.YtmlfkledhnlkeaaChecked
import GoSem.Claim
import GoSem.ClaimJoined
import GoSem.ClaimMapViews
import Derived.JoinedTies
import Derived.KernelRfl
namespace Go.Proofs.Ytmlfkledhnlkeaa
/- THE CELL 'sum', in the pinned program and in every row, IS THE sha256 OF THE DUMP (.gsa) THAT YtmlfkledhnlkeaaProg.lean LOADS. Nothing in Lean hashes anything: it is a label: what it is worth is what the hold of that sum in a sandbox is worth. -/
noncomputable def Try.pinned : Pinned := { name := "ytmlfkledhnlkeaa", sum := "fda65d65d47884e696b002016fa8c2f2ecf99c2b0b46e68fe87ab680573baed4", checked := Try.checked }
namespace Rows
def none {H : Type} : Left H := { results := [], args := [] }

/-- 'laws.FnExactIsUnambiguous': WHATEVER THE INPUT: true; the input reads as it did. -/
def fnExactIsUnambiguousSpec : ChangeSpec := { name := "fnExactIsUnambiguous", fn := fun _ => fun
  | [d] => { results := [.lit (.bool true)], args := [d] }
  | _ => none }
def fnExactIsUnambiguousRow : OpenClaim := { program := "ytmlfkledhnlkeaa", sum := "fda65d65d47884e696b002016fa8c2f2ecf99c2b0b46e68fe87ab680573baed4", func := "loop.example/g01922/laws.FnExactIsUnambiguous", spec := "fnExactIsUnambiguous", unfollowed := true, recurses := true, plainKeys := false, apart := false }
def FnExactIsUnambiguousSaid : Prop := fnExactIsUnambiguousRow.holds Try.pinned (OpenSpec.ofChange fnExactIsUnambiguousSpec)

/-- ITS FALSE NEIGHBOUR: 'it returns false'. Refute it at one input. -/
def fnExactIsUnambiguousWrong : ChangeSpec := { name := "fnExactIsUnambiguous", fn := fun _ => fun
  | [d] => { results := [.lit (.bool false)], args := [d] }
  | _ => none }
def FnExactIsUnambiguousWrongFalsely : Prop := fnExactIsUnambiguousRow.holds Try.pinned (OpenSpec.ofChange fnExactIsUnambiguousWrong)

/-- 'laws.FnExactAmbiguousWord': WHATEVER THE INPUT: true; the input reads as it did. -/
def fnExactAmbiguousWordSpec : ChangeSpec := { name := "fnExactAmbiguousWord", fn := fun _ => fun
  | [d] => { results := [.lit (.bool true)], args := [d] }
  | _ => none }
def fnExactAmbiguousWordRow : OpenClaim := { program := "ytmlfkledhnlkeaa", sum := "fda65d65d47884e696b002016fa8c2f2ecf99c2b0b46e68fe87ab680573baed4", func := "loop.example/g01922/laws.FnExactAmbiguousWord", spec := "fnExactAmbiguousWord", unfollowed := true, recurses := true, plainKeys := false, apart := false }
def FnExactAmbiguousWordSaid : Prop := fnExactAmbiguousWordRow.holds Try.pinned (OpenSpec.ofChange fnExactAmbiguousWordSpec)

/-- ITS FALSE NEIGHBOUR: 'it returns false'. Refute it at one input. -/
def fnExactAmbiguousWordWrong : ChangeSpec := { name := "fnExactAmbiguousWord", fn := fun _ => fun
  | [d] => { results := [.lit (.bool false)], args := [d] }
  | _ => none }
def FnExactAmbiguousWordWrongFalsely : Prop := fnExactAmbiguousWordRow.holds Try.pinned (OpenSpec.ofChange fnExactAmbiguousWordWrong)

/-- 'laws.FnExactCountSimplePaths': WHATEVER THE INPUT: true; the input reads as it did. -/
def fnExactCountSimplePathsSpec : ChangeSpec := { name := "fnExactCountSimplePaths", fn := fun _ => fun
  | [d1, d2, d3, d4] => { results := [.lit (.bool true)], args := [d1, d2, d3, d4] }
  | _ => none }
def fnExactCountSimplePathsRow : OpenClaim := { program := "ytmlfkledhnlkeaa", sum := "fda65d65d47884e696b002016fa8c2f2ecf99c2b0b46e68fe87ab680573baed4", func := "loop.example/g01922/laws.FnExactCountSimplePaths", spec := "fnExactCountSimplePaths", recurses := true, plainKeys := false, apart := false }
def FnExactCountSimplePathsSaid : Prop := fnExactCountSimplePathsRow.holds Try.pinned (OpenSpec.ofChange fnExactCountSimplePathsSpec)

/-- ITS FALSE NEIGHBOUR: 'it returns false'. Refute it at one input. -/
def fnExactCountSimplePathsWrong : ChangeSpec := { name := "fnExactCountSimplePaths", fn := fun _ => fun
  | [d1, d2, d3, d4] => { results := [.lit (.bool false)], args := [d1, d2, d3, d4] }
  | _ => none }
def FnExactCountSimplePathsWrongFalsely : Prop := fnExactCountSimplePathsRow.holds Try.pinned (OpenSpec.ofChange fnExactCountSimplePathsWrong)

/-- 'laws.FnExactCountWalks': WHATEVER THE INPUT: true; the input reads as it did. -/
def fnExactCountWalksSpec : ChangeSpec := { name := "fnExactCountWalks", fn := fun _ => fun
  | [d1, d2, d3, d4, d5] => { results := [.lit (.bool true)], args := [d1, d2, d3, d4, d5] }
  | _ => none }
def fnExactCountWalksRow : OpenClaim := { program := "ytmlfkledhnlkeaa", sum := "fda65d65d47884e696b002016fa8c2f2ecf99c2b0b46e68fe87ab680573baed4", func := "loop.example/g01922/laws.FnExactCountWalks", spec := "fnExactCountWalks", recurses := true, plainKeys := false, apart := false }
def FnExactCountWalksSaid : Prop := fnExactCountWalksRow.holds Try.pinned (OpenSpec.ofChange fnExactCountWalksSpec)

/-- ITS FALSE NEIGHBOUR: 'it returns false'. Refute it at one input. -/
def fnExactCountWalksWrong : ChangeSpec := { name := "fnExactCountWalks", fn := fun _ => fun
  | [d1, d2, d3, d4, d5] => { results := [.lit (.bool false)], args := [d1, d2, d3, d4, d5] }
  | _ => none }
def FnExactCountWalksWrongFalsely : Prop := fnExactCountWalksRow.holds Try.pinned (OpenSpec.ofChange fnExactCountWalksWrong)

/-- 'laws.FnExactShortestLength': WHATEVER THE INPUT: true; the input reads as it did. -/
def fnExactShortestLengthSpec : ChangeSpec := { name := "fnExactShortestLength", fn := fun _ => fun
  | [d1, d2, d3, d4] => { results := [.lit (.bool true)], args := [d1, d2, d3, d4] }
  | _ => none }
def fnExactShortestLengthRow : OpenClaim := { program := "ytmlfkledhnlkeaa", sum := "fda65d65d47884e696b002016fa8c2f2ecf99c2b0b46e68fe87ab680573baed4", func := "loop.example/g01922/laws.FnExactShortestLength", spec := "fnExactShortestLength", plainKeys := false, apart := false }
def FnExactShortestLengthSaid : Prop := fnExactShortestLengthRow.holds Try.pinned (OpenSpec.ofChange fnExactShortestLengthSpec)

/-- ITS FALSE NEIGHBOUR: 'it returns false'. Refute it at one input. -/
def fnExactShortestLengthWrong : ChangeSpec := { name := "fnExactShortestLength", fn := fun _ => fun
  | [d1, d2, d3, d4] => { results := [.lit (.bool false)], args := [d1, d2, d3, d4] }
  | _ => none }
def FnExactShortestLengthWrongFalsely : Prop := fnExactShortestLengthRow.holds Try.pinned (OpenSpec.ofChange fnExactShortestLengthWrong)

/-- 'laws.FnExactIsWitness': WHATEVER THE INPUT: true; the input reads as it did. -/
def fnExactIsWitnessSpec : ChangeSpec := { name := "fnExactIsWitness", fn := fun _ => fun
  | [d1, d2, d3, d4, d5] => { results := [.lit (.bool true)], args := [d1, d2, d3, d4, d5] }
  | _ => none }
def fnExactIsWitnessRow : OpenClaim := { program := "ytmlfkledhnlkeaa", sum := "fda65d65d47884e696b002016fa8c2f2ecf99c2b0b46e68fe87ab680573baed4", func := "loop.example/g01922/laws.FnExactIsWitness", spec := "fnExactIsWitness", unfollowed := true, recurses := true, plainKeys := false, apart := false }
def FnExactIsWitnessSaid : Prop := fnExactIsWitnessRow.holds Try.pinned (OpenSpec.ofChange fnExactIsWitnessSpec)

/-- ITS FALSE NEIGHBOUR: 'it returns false'. Refute it at one input. -/
def fnExactIsWitnessWrong : ChangeSpec := { name := "fnExactIsWitness", fn := fun _ => fun
  | [d1, d2, d3, d4, d5] => { results := [.lit (.bool false)], args := [d1, d2, d3, d4, d5] }
  | _ => none }
def FnExactIsWitnessWrongFalsely : Prop := fnExactIsWitnessRow.holds Try.pinned (OpenSpec.ofChange fnExactIsWitnessWrong)

/-- 'laws.FnExactMatchesWalk': WHATEVER THE INPUT: true; the input reads as it did. -/
def fnExactMatchesWalkSpec : ChangeSpec := { name := "fnExactMatchesWalk", fn := fun _ => fun
  | [d1, d2, d3] => { results := [.lit (.bool true)], args := [d1, d2, d3] }
  | _ => none }
def fnExactMatchesWalkRow : OpenClaim := { program := "ytmlfkledhnlkeaa", sum := "fda65d65d47884e696b002016fa8c2f2ecf99c2b0b46e68fe87ab680573baed4", func := "loop.example/g01922/laws.FnExactMatchesWalk", spec := "fnExactMatchesWalk", unfollowed := true, recurses := true, plainKeys := false, apart := false }
def FnExactMatchesWalkSaid : Prop := fnExactMatchesWalkRow.holds Try.pinned (OpenSpec.ofChange fnExactMatchesWalkSpec)

/-- ITS FALSE NEIGHBOUR: 'it returns false'. Refute it at one input. -/
def fnExactMatchesWalkWrong : ChangeSpec := { name := "fnExactMatchesWalk", fn := fun _ => fun
  | [d1, d2, d3] => { results := [.lit (.bool false)], args := [d1, d2, d3] }
  | _ => none }
def FnExactMatchesWalkWrongFalsely : Prop := fnExactMatchesWalkRow.holds Try.pinned (OpenSpec.ofChange fnExactMatchesWalkWrong)

/-- 'laws.FnExactIsTrailWitness': WHATEVER THE INPUT: true; the input reads as it did. -/
def fnExactIsTrailWitnessSpec : ChangeSpec := { name := "fnExactIsTrailWitness", fn := fun _ => fun
  | [d1, d2, d3, d4, d5] => { results := [.lit (.bool true)], args := [d1, d2, d3, d4, d5] }
  | _ => none }
def fnExactIsTrailWitnessRow : OpenClaim := { program := "ytmlfkledhnlkeaa", sum := "fda65d65d47884e696b002016fa8c2f2ecf99c2b0b46e68fe87ab680573baed4", func := "loop.example/g01922/laws.FnExactIsTrailWitness", spec := "fnExactIsTrailWitness", unfollowed := true, recurses := true, plainKeys := false, apart := false }
def FnExactIsTrailWitnessSaid : Prop := fnExactIsTrailWitnessRow.holds Try.pinned (OpenSpec.ofChange fnExactIsTrailWitnessSpec)

/-- ITS FALSE NEIGHBOUR: 'it returns false'. Refute it at one input. -/
def fnExactIsTrailWitnessWrong : ChangeSpec := { name := "fnExactIsTrailWitness", fn := fun _ => fun
  | [d1, d2, d3, d4, d5] => { results := [.lit (.bool false)], args := [d1, d2, d3, d4, d5] }
  | _ => none }
def FnExactIsTrailWitnessWrongFalsely : Prop := fnExactIsTrailWitnessRow.holds Try.pinned (OpenSpec.ofChange fnExactIsTrailWitnessWrong)

/-- 'laws.FnExactLongestShortest': WHATEVER THE INPUT: true; the input reads as it did. -/
def fnExactLongestShortestSpec : ChangeSpec := { name := "fnExactLongestShortest", fn := fun _ => fun
  | [d1, d2] => { results := [.lit (.bool true)], args := [d1, d2] }
  | _ => none }
def fnExactLongestShortestRow : OpenClaim := { program := "ytmlfkledhnlkeaa", sum := "fda65d65d47884e696b002016fa8c2f2ecf99c2b0b46e68fe87ab680573baed4", func := "loop.example/g01922/laws.FnExactLongestShortest", spec := "fnExactLongestShortest", plainKeys := false, apart := false }
def FnExactLongestShortestSaid : Prop := fnExactLongestShortestRow.holds Try.pinned (OpenSpec.ofChange fnExactLongestShortestSpec)

/-- ITS FALSE NEIGHBOUR: 'it returns false'. Refute it at one input. -/
def fnExactLongestShortestWrong : ChangeSpec := { name := "fnExactLongestShortest", fn := fun _ => fun
  | [d1, d2] => { results := [.lit (.bool false)], args := [d1, d2] }
  | _ => none }
def FnExactLongestShortestWrongFalsely : Prop := fnExactLongestShortestRow.holds Try.pinned (OpenSpec.ofChange fnExactLongestShortestWrong)

/-- 'laws.FnExactCountShortest': WHATEVER THE INPUT: true; the input reads as it did. -/
def fnExactCountShortestSpec : ChangeSpec := { name := "fnExactCountShortest", fn := fun _ => fun
  | [d1, d2, d3, d4] => { results := [.lit (.bool true)], args := [d1, d2, d3, d4] }
  | _ => none }
def fnExactCountShortestRow : OpenClaim := { program := "ytmlfkledhnlkeaa", sum := "fda65d65d47884e696b002016fa8c2f2ecf99c2b0b46e68fe87ab680573baed4", func := "loop.example/g01922/laws.FnExactCountShortest", spec := "fnExactCountShortest", recurses := true, plainKeys := false, apart := false }
def FnExactCountShortestSaid : Prop := fnExactCountShortestRow.holds Try.pinned (OpenSpec.ofChange fnExactCountShortestSpec)

/-- ITS FALSE NEIGHBOUR: 'it returns false'. Refute it at one input. -/
def fnExactCountShortestWrong : ChangeSpec := { name := "fnExactCountShortest", fn := fun _ => fun
  | [d1, d2, d3, d4] => { results := [.lit (.bool false)], args := [d1, d2, d3, d4] }
  | _ => none }
def FnExactCountShortestWrongFalsely : Prop := fnExactCountShortestRow.holds Try.pinned (OpenSpec.ofChange fnExactCountShortestWrong)

/-- 'laws.FnExactHasAnswer': WHATEVER THE INPUT: true; the input reads as it did. -/
def fnExactHasAnswerSpec : ChangeSpec := { name := "fnExactHasAnswer", fn := fun _ => fun
  | [d1, d2, d3, d4] => { results := [.lit (.bool true)], args := [d1, d2, d3, d4] }
  | _ => none }
def fnExactHasAnswerRow : OpenClaim := { program := "ytmlfkledhnlkeaa", sum := "fda65d65d47884e696b002016fa8c2f2ecf99c2b0b46e68fe87ab680573baed4", func := "loop.example/g01922/laws.FnExactHasAnswer", spec := "fnExactHasAnswer", recurses := true, plainKeys := false, apart := false }
def FnExactHasAnswerSaid : Prop := fnExactHasAnswerRow.holds Try.pinned (OpenSpec.ofChange fnExactHasAnswerSpec)

/-- ITS FALSE NEIGHBOUR: 'it returns false'. Refute it at one input. -/
def fnExactHasAnswerWrong : ChangeSpec := { name := "fnExactHasAnswer", fn := fun _ => fun
  | [d1, d2, d3, d4] => { results := [.lit (.bool false)], args := [d1, d2, d3, d4] }
  | _ => none }
def FnExactHasAnswerWrongFalsely : Prop := fnExactHasAnswerRow.holds Try.pinned (OpenSpec.ofChange fnExactHasAnswerWrong)

/-- 'laws.FnExactIsSimpleWitness': WHATEVER THE INPUT: true; the input reads as it did. -/
def fnExactIsSimpleWitnessSpec : ChangeSpec := { name := "fnExactIsSimpleWitness", fn := fun _ => fun
  | [d1, d2, d3, d4, d5] => { results := [.lit (.bool true)], args := [d1, d2, d3, d4, d5] }
  | _ => none }
def fnExactIsSimpleWitnessRow : OpenClaim := { program := "ytmlfkledhnlkeaa", sum := "fda65d65d47884e696b002016fa8c2f2ecf99c2b0b46e68fe87ab680573baed4", func := "loop.example/g01922/laws.FnExactIsSimpleWitness", spec := "fnExactIsSimpleWitness", unfollowed := true, recurses := true, plainKeys := false, apart := false }
def FnExactIsSimpleWitnessSaid : Prop := fnExactIsSimpleWitnessRow.holds Try.pinned (OpenSpec.ofChange fnExactIsSimpleWitnessSpec)

/-- ITS FALSE NEIGHBOUR: 'it returns false'. Refute it at one input. -/
def fnExactIsSimpleWitnessWrong : ChangeSpec := { name := "fnExactIsSimpleWitness", fn := fun _ => fun
  | [d1, d2, d3, d4, d5] => { results := [.lit (.bool false)], args := [d1, d2, d3, d4, d5] }
  | _ => none }
def FnExactIsSimpleWitnessWrongFalsely : Prop := fnExactIsSimpleWitnessRow.holds Try.pinned (OpenSpec.ofChange fnExactIsSimpleWitnessWrong)

/- THE SECOND FORM. 'bulk': how many values and letters a reading holds, each counted each time it is reached (what is shared counts as often as it is met; a slice's spare places count too). A statement '..UptoSaid' is the law's where the arguments, and the package variables that the reading takes, are together of bulk at most 1048576: NARROWER than '..Said'. Prove '..Said' where nothing that the law and all that it calls make is longer than what came in: it says more and counts as full. Else prove '..UptoSaid'. A law counts once. -/
mutual
def uptoBulk {H : Type} : DataW H → Nat
  | .lit (.string bytes) => bytes.length + 1
  | .lit _ => 1
  | .nil => 1
  | .ptr d => uptoBulk d + 1
  | .slice elems spare => uptoBulkAll elems + uptoBulkAll spare + 1
  | .agg parts => uptoBulkAll parts + 1
  | .iface _ d => uptoBulk d + 1
  | .map entries => uptoBulkEntries entries + 1
  | .held _ => 1
def uptoBulkAll {H : Type} : List (DataW H) → Nat
  | [] => 0
  | d :: r => uptoBulk d + uptoBulkAll r
def uptoBulkEntries {H : Type} : List (Lit × DataW H) → Nat
  | [] => 0
  | x :: r => uptoBulkEntry x + uptoBulkEntries r
def uptoBulkEntry {H : Type} : Lit × DataW H → Nat
  | (.string bytes, d) => bytes.length + uptoBulk d + 1
  | (_, d) => uptoBulk d + 1
 end
def uptoSmall : (H : Type) → List (DataW H) → Bool := fun _ ds => decide (uptoBulkAll ds ≤ 1048576)
def OpenSpec.upto (s : _root_.Go.ChangeSpec) : _root_.Go.OpenSpec := { _root_.Go.OpenSpec.ofChange s with cond := some uptoSmall }

/-- 'laws.FnExactIsUnambiguous', WHERE WHAT IT READS IS OF BULK AT MOST 1048576: true; the input reads as it did. -/
def fnExactIsUnambiguousUptoRow : OpenClaim := { program := "ytmlfkledhnlkeaa", sum := "fda65d65d47884e696b002016fa8c2f2ecf99c2b0b46e68fe87ab680573baed4", func := "loop.example/g01922/laws.FnExactIsUnambiguous", spec := "fnExactIsUnambiguous", unfollowed := true, recurses := true, plainKeys := false, apart := false, narrowed := true }
def FnExactIsUnambiguousUptoSaid : Prop := fnExactIsUnambiguousUptoRow.holds Try.pinned (OpenSpec.upto fnExactIsUnambiguousSpec)

/-- 'laws.FnExactAmbiguousWord', WHERE WHAT IT READS IS OF BULK AT MOST 1048576: true; the input reads as it did. -/
def fnExactAmbiguousWordUptoRow : OpenClaim := { program := "ytmlfkledhnlkeaa", sum := "fda65d65d47884e696b002016fa8c2f2ecf99c2b0b46e68fe87ab680573baed4", func := "loop.example/g01922/laws.FnExactAmbiguousWord", spec := "fnExactAmbiguousWord", unfollowed := true, recurses := true, plainKeys := false, apart := false, narrowed := true }
def FnExactAmbiguousWordUptoSaid : Prop := fnExactAmbiguousWordUptoRow.holds Try.pinned (OpenSpec.upto fnExactAmbiguousWordSpec)

/-- 'laws.FnExactCountSimplePaths', WHERE WHAT IT READS IS OF BULK AT MOST 1048576: true; the input reads as it did. -/
def fnExactCountSimplePathsUptoRow : OpenClaim := { program := "ytmlfkledhnlkeaa", sum := "fda65d65d47884e696b002016fa8c2f2ecf99c2b0b46e68fe87ab680573baed4", func := "loop.example/g01922/laws.FnExactCountSimplePaths", spec := "fnExactCountSimplePaths", recurses := true, plainKeys := false, apart := false, narrowed := true }
def FnExactCountSimplePathsUptoSaid : Prop := fnExactCountSimplePathsUptoRow.holds Try.pinned (OpenSpec.upto fnExactCountSimplePathsSpec)

/-- 'laws.FnExactCountWalks', WHERE WHAT IT READS IS OF BULK AT MOST 1048576: true; the input reads as it did. -/
def fnExactCountWalksUptoRow : OpenClaim := { program := "ytmlfkledhnlkeaa", sum := "fda65d65d47884e696b002016fa8c2f2ecf99c2b0b46e68fe87ab680573baed4", func := "loop.example/g01922/laws.FnExactCountWalks", spec := "fnExactCountWalks", recurses := true, plainKeys := false, apart := false, narrowed := true }
def FnExactCountWalksUptoSaid : Prop := fnExactCountWalksUptoRow.holds Try.pinned (OpenSpec.upto fnExactCountWalksSpec)

/-- 'laws.FnExactShortestLength', WHERE WHAT IT READS IS OF BULK AT MOST 1048576: true; the input reads as it did. -/
def fnExactShortestLengthUptoRow : OpenClaim := { program := "ytmlfkledhnlkeaa", sum := "fda65d65d47884e696b002016fa8c2f2ecf99c2b0b46e68fe87ab680573baed4", func := "loop.example/g01922/laws.FnExactShortestLength", spec := "fnExactShortestLength", plainKeys := false, apart := false, narrowed := true }
def FnExactShortestLengthUptoSaid : Prop := fnExactShortestLengthUptoRow.holds Try.pinned (OpenSpec.upto fnExactShortestLengthSpec)

/-- 'laws.FnExactIsWitness', WHERE WHAT IT READS IS OF BULK AT MOST 1048576: true; the input reads as it did. -/
def fnExactIsWitnessUptoRow : OpenClaim := { program := "ytmlfkledhnlkeaa", sum := "fda65d65d47884e696b002016fa8c2f2ecf99c2b0b46e68fe87ab680573baed4", func := "loop.example/g01922/laws.FnExactIsWitness", spec := "fnExactIsWitness", unfollowed := true, recurses := true, plainKeys := false, apart := false, narrowed := true }
def FnExactIsWitnessUptoSaid : Prop := fnExactIsWitnessUptoRow.holds Try.pinned (OpenSpec.upto fnExactIsWitnessSpec)

/-- 'laws.FnExactMatchesWalk', WHERE WHAT IT READS IS OF BULK AT MOST 1048576: true; the input reads as it did. -/
def fnExactMatchesWalkUptoRow : OpenClaim := { program := "ytmlfkledhnlkeaa", sum := "fda65d65d47884e696b002016fa8c2f2ecf99c2b0b46e68fe87ab680573baed4", func := "loop.example/g01922/laws.FnExactMatchesWalk", spec := "fnExactMatchesWalk", unfollowed := true, recurses := true, plainKeys := false, apart := false, narrowed := true }
def FnExactMatchesWalkUptoSaid : Prop := fnExactMatchesWalkUptoRow.holds Try.pinned (OpenSpec.upto fnExactMatchesWalkSpec)

/-- 'laws.FnExactIsTrailWitness', WHERE WHAT IT READS IS OF BULK AT MOST 1048576: true; the input reads as it did. -/
def fnExactIsTrailWitnessUptoRow : OpenClaim := { program := "ytmlfkledhnlkeaa", sum := "fda65d65d47884e696b002016fa8c2f2ecf99c2b0b46e68fe87ab680573baed4", func := "loop.example/g01922/laws.FnExactIsTrailWitness", spec := "fnExactIsTrailWitness", unfollowed := true, recurses := true, plainKeys := false, apart := false, narrowed := true }
def FnExactIsTrailWitnessUptoSaid : Prop := fnExactIsTrailWitnessUptoRow.holds Try.pinned (OpenSpec.upto fnExactIsTrailWitnessSpec)

/-- 'laws.FnExactLongestShortest', WHERE WHAT IT READS IS OF BULK AT MOST 1048576: true; the input reads as it did. -/
def fnExactLongestShortestUptoRow : OpenClaim := { program := "ytmlfkledhnlkeaa", sum := "fda65d65d47884e696b002016fa8c2f2ecf99c2b0b46e68fe87ab680573baed4", func := "loop.example/g01922/laws.FnExactLongestShortest", spec := "fnExactLongestShortest", plainKeys := false, apart := false, narrowed := true }
def FnExactLongestShortestUptoSaid : Prop := fnExactLongestShortestUptoRow.holds Try.pinned (OpenSpec.upto fnExactLongestShortestSpec)

/-- 'laws.FnExactCountShortest', WHERE WHAT IT READS IS OF BULK AT MOST 1048576: true; the input reads as it did. -/
def fnExactCountShortestUptoRow : OpenClaim := { program := "ytmlfkledhnlkeaa", sum := "fda65d65d47884e696b002016fa8c2f2ecf99c2b0b46e68fe87ab680573baed4", func := "loop.example/g01922/laws.FnExactCountShortest", spec := "fnExactCountShortest", recurses := true, plainKeys := false, apart := false, narrowed := true }
def FnExactCountShortestUptoSaid : Prop := fnExactCountShortestUptoRow.holds Try.pinned (OpenSpec.upto fnExactCountShortestSpec)

/-- 'laws.FnExactHasAnswer', WHERE WHAT IT READS IS OF BULK AT MOST 1048576: true; the input reads as it did. -/
def fnExactHasAnswerUptoRow : OpenClaim := { program := "ytmlfkledhnlkeaa", sum := "fda65d65d47884e696b002016fa8c2f2ecf99c2b0b46e68fe87ab680573baed4", func := "loop.example/g01922/laws.FnExactHasAnswer", spec := "fnExactHasAnswer", recurses := true, plainKeys := false, apart := false, narrowed := true }
def FnExactHasAnswerUptoSaid : Prop := fnExactHasAnswerUptoRow.holds Try.pinned (OpenSpec.upto fnExactHasAnswerSpec)

/-- 'laws.FnExactIsSimpleWitness', WHERE WHAT IT READS IS OF BULK AT MOST 1048576: true; the input reads as it did. -/
def fnExactIsSimpleWitnessUptoRow : OpenClaim := { program := "ytmlfkledhnlkeaa", sum := "fda65d65d47884e696b002016fa8c2f2ecf99c2b0b46e68fe87ab680573baed4", func := "loop.example/g01922/laws.FnExactIsSimpleWitness", spec := "fnExactIsSimpleWitness", unfollowed := true, recurses := true, plainKeys := false, apart := false, narrowed := true }
def FnExactIsSimpleWitnessUptoSaid : Prop := fnExactIsSimpleWitnessUptoRow.holds Try.pinned (OpenSpec.upto fnExactIsSimpleWitnessSpec)

end Rows
end Go.Proofs.Ytmlfkledhnlkeaa
