/-
  No cell of these rows narrows 'for every input' (looked for: loops, veiled, ifaces, maps, wideKeys, modest, calm, conditions, laid).
  DERIVED. THE GIVEN ROWS OF THIS SEAT. 12 by the template 'for every input the law returns true; each argument reads behind the call as it read before'; 0 by the template 'total and deterministic' (their statements: YtmdgloeejjepmaaTotals.lean).
  GIVEN WITH THE SEED: the statements are not yours to turn. If you find one false, say at which input.
  Laid BY PROGRAM, IN A SANDBOX (cutbox-rows.mjs): the forced cells as the released guide's own fill.sh prints them over the translation 92b8d533ba3f6acb… (all of the seat's roots in one cut). By AI agents, Wed Nov 11 2026. No macro, syntax, notation, axiom, sorry.
-/
import Derived.Test.YtmdgloeejjepmaaChecked
import GoSem.Claim
import GoSem.ClaimJoined
import GoSem.ClaimMapViews
import Derived.JoinedTies
import Derived.KernelRfl
namespace Go.Proofs.Ytmdgloeejjepmaa
/- THE CELL 'sum', in the pinned program and in every row, IS THE sha256 OF THE DUMP (.gsa) THAT YtmdgloeejjepmaaProg.lean LOADS. Nothing in Lean hashes anything: it is a label: what it is worth is what the hold of that sum in a sandbox is worth. -/
noncomputable def Try.pinned : Pinned := { name := "ytmdgloeejjepmaa", sum := "92b8d533ba3f6acb85f0fceb96737d98de79551433c4fd804a9c62f8b51aaa93", checked := Try.checked }
namespace Rows
def none {H : Type} : Left H := { results := [], args := [] }

/-- 'laws.FnExactInvertRelation': WHATEVER THE INPUT: true; the input reads as it did. -/
def fnExactInvertRelationSpec : ChangeSpec := { name := "fnExactInvertRelation", fn := fun _ => fun
  | [d] => { results := [.lit (.bool true)], args := [d] }
  | _ => none }
def fnExactInvertRelationRow : OpenClaim := { program := "ytmdgloeejjepmaa", sum := "92b8d533ba3f6acb85f0fceb96737d98de79551433c4fd804a9c62f8b51aaa93", func := "loop.example/g01922/laws.FnExactInvertRelation", spec := "fnExactInvertRelation", unfollowed := true, recurses := true, plainKeys := false, apart := false }
def FnExactInvertRelationSaid : Prop := fnExactInvertRelationRow.holds Try.pinned (OpenSpec.ofChange fnExactInvertRelationSpec)

/-- ITS FALSE NEIGHBOUR: 'it returns false'. Refute it at one input. -/
def fnExactInvertRelationWrong : ChangeSpec := { name := "fnExactInvertRelation", fn := fun _ => fun
  | [d] => { results := [.lit (.bool false)], args := [d] }
  | _ => none }
def FnExactInvertRelationWrongFalsely : Prop := fnExactInvertRelationRow.holds Try.pinned (OpenSpec.ofChange fnExactInvertRelationWrong)

/-- 'laws.FnExactComposeRelations': WHATEVER THE INPUT: true; the input reads as it did. -/
def fnExactComposeRelationsSpec : ChangeSpec := { name := "fnExactComposeRelations", fn := fun _ => fun
  | [d1, d2] => { results := [.lit (.bool true)], args := [d1, d2] }
  | _ => none }
def fnExactComposeRelationsRow : OpenClaim := { program := "ytmdgloeejjepmaa", sum := "92b8d533ba3f6acb85f0fceb96737d98de79551433c4fd804a9c62f8b51aaa93", func := "loop.example/g01922/laws.FnExactComposeRelations", spec := "fnExactComposeRelations", unfollowed := true, recurses := true, plainKeys := false, apart := false }
def FnExactComposeRelationsSaid : Prop := fnExactComposeRelationsRow.holds Try.pinned (OpenSpec.ofChange fnExactComposeRelationsSpec)

/-- ITS FALSE NEIGHBOUR: 'it returns false'. Refute it at one input. -/
def fnExactComposeRelationsWrong : ChangeSpec := { name := "fnExactComposeRelations", fn := fun _ => fun
  | [d1, d2] => { results := [.lit (.bool false)], args := [d1, d2] }
  | _ => none }
def FnExactComposeRelationsWrongFalsely : Prop := fnExactComposeRelationsRow.holds Try.pinned (OpenSpec.ofChange fnExactComposeRelationsWrong)

/-- 'laws.FnExactClosureRelation': WHATEVER THE INPUT: true; the input reads as it did. -/
def fnExactClosureRelationSpec : ChangeSpec := { name := "fnExactClosureRelation", fn := fun _ => fun
  | [d1, d2] => { results := [.lit (.bool true)], args := [d1, d2] }
  | _ => none }
def fnExactClosureRelationRow : OpenClaim := { program := "ytmdgloeejjepmaa", sum := "92b8d533ba3f6acb85f0fceb96737d98de79551433c4fd804a9c62f8b51aaa93", func := "loop.example/g01922/laws.FnExactClosureRelation", spec := "fnExactClosureRelation", unfollowed := true, recurses := true, plainKeys := false, apart := false }
def FnExactClosureRelationSaid : Prop := fnExactClosureRelationRow.holds Try.pinned (OpenSpec.ofChange fnExactClosureRelationSpec)

/-- ITS FALSE NEIGHBOUR: 'it returns false'. Refute it at one input. -/
def fnExactClosureRelationWrong : ChangeSpec := { name := "fnExactClosureRelation", fn := fun _ => fun
  | [d1, d2] => { results := [.lit (.bool false)], args := [d1, d2] }
  | _ => none }
def FnExactClosureRelationWrongFalsely : Prop := fnExactClosureRelationRow.holds Try.pinned (OpenSpec.ofChange fnExactClosureRelationWrong)

/-- 'laws.FnExactPowerRelation': WHATEVER THE INPUT: true; the input reads as it did. -/
def fnExactPowerRelationSpec : ChangeSpec := { name := "fnExactPowerRelation", fn := fun _ => fun
  | [d1, d2, d3, d4] => { results := [.lit (.bool true)], args := [d1, d2, d3, d4] }
  | _ => none }
def fnExactPowerRelationRow : OpenClaim := { program := "ytmdgloeejjepmaa", sum := "92b8d533ba3f6acb85f0fceb96737d98de79551433c4fd804a9c62f8b51aaa93", func := "loop.example/g01922/laws.FnExactPowerRelation", spec := "fnExactPowerRelation", unfollowed := true, recurses := true, plainKeys := false, apart := false }
def FnExactPowerRelationSaid : Prop := fnExactPowerRelationRow.holds Try.pinned (OpenSpec.ofChange fnExactPowerRelationSpec)

/-- ITS FALSE NEIGHBOUR: 'it returns false'. Refute it at one input. -/
def fnExactPowerRelationWrong : ChangeSpec := { name := "fnExactPowerRelation", fn := fun _ => fun
  | [d1, d2, d3, d4] => { results := [.lit (.bool false)], args := [d1, d2, d3, d4] }
  | _ => none }
def FnExactPowerRelationWrongFalsely : Prop := fnExactPowerRelationRow.holds Try.pinned (OpenSpec.ofChange fnExactPowerRelationWrong)

/-- 'laws.FnExactLetterRelation': WHATEVER THE INPUT: true; the input reads as it did. -/
def fnExactLetterRelationSpec : ChangeSpec := { name := "fnExactLetterRelation", fn := fun _ => fun
  | [d1, d2] => { results := [.lit (.bool true)], args := [d1, d2] }
  | _ => none }
def fnExactLetterRelationRow : OpenClaim := { program := "ytmdgloeejjepmaa", sum := "92b8d533ba3f6acb85f0fceb96737d98de79551433c4fd804a9c62f8b51aaa93", func := "loop.example/g01922/laws.FnExactLetterRelation", spec := "fnExactLetterRelation", unfollowed := true, recurses := true, plainKeys := false, apart := false }
def FnExactLetterRelationSaid : Prop := fnExactLetterRelationRow.holds Try.pinned (OpenSpec.ofChange fnExactLetterRelationSpec)

/-- ITS FALSE NEIGHBOUR: 'it returns false'. Refute it at one input. -/
def fnExactLetterRelationWrong : ChangeSpec := { name := "fnExactLetterRelation", fn := fun _ => fun
  | [d1, d2] => { results := [.lit (.bool false)], args := [d1, d2] }
  | _ => none }
def FnExactLetterRelationWrongFalsely : Prop := fnExactLetterRelationRow.holds Try.pinned (OpenSpec.ofChange fnExactLetterRelationWrong)

/-- 'laws.FnExactLoopImages': WHATEVER THE INPUT: true; the input reads as it did. -/
def fnExactLoopImagesSpec : ChangeSpec := { name := "fnExactLoopImages", fn := fun _ => fun
  | [d1, d2, d3] => { results := [.lit (.bool true)], args := [d1, d2, d3] }
  | _ => none }
def fnExactLoopImagesRow : OpenClaim := { program := "ytmdgloeejjepmaa", sum := "92b8d533ba3f6acb85f0fceb96737d98de79551433c4fd804a9c62f8b51aaa93", func := "loop.example/g01922/laws.FnExactLoopImages", spec := "fnExactLoopImages", unfollowed := true, recurses := true, plainKeys := false, apart := false }
def FnExactLoopImagesSaid : Prop := fnExactLoopImagesRow.holds Try.pinned (OpenSpec.ofChange fnExactLoopImagesSpec)

/-- ITS FALSE NEIGHBOUR: 'it returns false'. Refute it at one input. -/
def fnExactLoopImagesWrong : ChangeSpec := { name := "fnExactLoopImages", fn := fun _ => fun
  | [d1, d2, d3] => { results := [.lit (.bool false)], args := [d1, d2, d3] }
  | _ => none }
def FnExactLoopImagesWrongFalsely : Prop := fnExactLoopImagesRow.holds Try.pinned (OpenSpec.ofChange fnExactLoopImagesWrong)

/-- 'laws.FnExactPumpedStates': WHATEVER THE INPUT: true; the input reads as it did. -/
def fnExactPumpedStatesSpec : ChangeSpec := { name := "fnExactPumpedStates", fn := fun _ => fun
  | [d1, d2, d3, d4] => { results := [.lit (.bool true)], args := [d1, d2, d3, d4] }
  | _ => none }
def fnExactPumpedStatesRow : OpenClaim := { program := "ytmdgloeejjepmaa", sum := "92b8d533ba3f6acb85f0fceb96737d98de79551433c4fd804a9c62f8b51aaa93", func := "loop.example/g01922/laws.FnExactPumpedStates", spec := "fnExactPumpedStates", unfollowed := true, recurses := true, plainKeys := false, apart := false }
def FnExactPumpedStatesSaid : Prop := fnExactPumpedStatesRow.holds Try.pinned (OpenSpec.ofChange fnExactPumpedStatesSpec)

/-- ITS FALSE NEIGHBOUR: 'it returns false'. Refute it at one input. -/
def fnExactPumpedStatesWrong : ChangeSpec := { name := "fnExactPumpedStates", fn := fun _ => fun
  | [d1, d2, d3, d4] => { results := [.lit (.bool false)], args := [d1, d2, d3, d4] }
  | _ => none }
def FnExactPumpedStatesWrongFalsely : Prop := fnExactPumpedStatesRow.holds Try.pinned (OpenSpec.ofChange fnExactPumpedStatesWrong)

/-- 'laws.FnExactIsUnambiguous': WHATEVER THE INPUT: true; the input reads as it did. -/
def fnExactIsUnambiguousSpec : ChangeSpec := { name := "fnExactIsUnambiguous", fn := fun _ => fun
  | [d] => { results := [.lit (.bool true)], args := [d] }
  | _ => none }
def fnExactIsUnambiguousRow : OpenClaim := { program := "ytmdgloeejjepmaa", sum := "92b8d533ba3f6acb85f0fceb96737d98de79551433c4fd804a9c62f8b51aaa93", func := "loop.example/g01922/laws.FnExactIsUnambiguous", spec := "fnExactIsUnambiguous", unfollowed := true, recurses := true, plainKeys := false, apart := false }
def FnExactIsUnambiguousSaid : Prop := fnExactIsUnambiguousRow.holds Try.pinned (OpenSpec.ofChange fnExactIsUnambiguousSpec)

/-- ITS FALSE NEIGHBOUR: 'it returns false'. Refute it at one input. -/
def fnExactIsUnambiguousWrong : ChangeSpec := { name := "fnExactIsUnambiguous", fn := fun _ => fun
  | [d] => { results := [.lit (.bool false)], args := [d] }
  | _ => none }
def FnExactIsUnambiguousWrongFalsely : Prop := fnExactIsUnambiguousRow.holds Try.pinned (OpenSpec.ofChange fnExactIsUnambiguousWrong)

/-- 'laws.FnExactAmbiguousWord': WHATEVER THE INPUT: true; the input reads as it did. -/
def fnExactAmbiguousWordSpec : ChangeSpec := { name := "fnExactAmbiguousWord", fn := fun _ => fun
  | [d] => { results := [.lit (.bool true)], args := [d] }
  | _ => none }
def fnExactAmbiguousWordRow : OpenClaim := { program := "ytmdgloeejjepmaa", sum := "92b8d533ba3f6acb85f0fceb96737d98de79551433c4fd804a9c62f8b51aaa93", func := "loop.example/g01922/laws.FnExactAmbiguousWord", spec := "fnExactAmbiguousWord", unfollowed := true, recurses := true, plainKeys := false, apart := false }
def FnExactAmbiguousWordSaid : Prop := fnExactAmbiguousWordRow.holds Try.pinned (OpenSpec.ofChange fnExactAmbiguousWordSpec)

/-- ITS FALSE NEIGHBOUR: 'it returns false'. Refute it at one input. -/
def fnExactAmbiguousWordWrong : ChangeSpec := { name := "fnExactAmbiguousWord", fn := fun _ => fun
  | [d] => { results := [.lit (.bool false)], args := [d] }
  | _ => none }
def FnExactAmbiguousWordWrongFalsely : Prop := fnExactAmbiguousWordRow.holds Try.pinned (OpenSpec.ofChange fnExactAmbiguousWordWrong)

/-- 'laws.FnExactSearchSimplePath': WHATEVER THE INPUT: true; the input reads as it did. -/
def fnExactSearchSimplePathSpec : ChangeSpec := { name := "fnExactSearchSimplePath", fn := fun _ => fun
  | [d1, d2, d3, d4, d5] => { results := [.lit (.bool true)], args := [d1, d2, d3, d4, d5] }
  | _ => none }
def fnExactSearchSimplePathRow : OpenClaim := { program := "ytmdgloeejjepmaa", sum := "92b8d533ba3f6acb85f0fceb96737d98de79551433c4fd804a9c62f8b51aaa93", func := "loop.example/g01922/laws.FnExactSearchSimplePath", spec := "fnExactSearchSimplePath", recurses := true, plainKeys := false, apart := false }
def FnExactSearchSimplePathSaid : Prop := fnExactSearchSimplePathRow.holds Try.pinned (OpenSpec.ofChange fnExactSearchSimplePathSpec)

/-- ITS FALSE NEIGHBOUR: 'it returns false'. Refute it at one input. -/
def fnExactSearchSimplePathWrong : ChangeSpec := { name := "fnExactSearchSimplePath", fn := fun _ => fun
  | [d1, d2, d3, d4, d5] => { results := [.lit (.bool false)], args := [d1, d2, d3, d4, d5] }
  | _ => none }
def FnExactSearchSimplePathWrongFalsely : Prop := fnExactSearchSimplePathRow.holds Try.pinned (OpenSpec.ofChange fnExactSearchSimplePathWrong)

/-- 'laws.FnExactSearchTrail': WHATEVER THE INPUT: true; the input reads as it did. -/
def fnExactSearchTrailSpec : ChangeSpec := { name := "fnExactSearchTrail", fn := fun _ => fun
  | [d1, d2, d3, d4, d5] => { results := [.lit (.bool true)], args := [d1, d2, d3, d4, d5] }
  | _ => none }
def fnExactSearchTrailRow : OpenClaim := { program := "ytmdgloeejjepmaa", sum := "92b8d533ba3f6acb85f0fceb96737d98de79551433c4fd804a9c62f8b51aaa93", func := "loop.example/g01922/laws.FnExactSearchTrail", spec := "fnExactSearchTrail", recurses := true, plainKeys := false, apart := false }
def FnExactSearchTrailSaid : Prop := fnExactSearchTrailRow.holds Try.pinned (OpenSpec.ofChange fnExactSearchTrailSpec)

/-- ITS FALSE NEIGHBOUR: 'it returns false'. Refute it at one input. -/
def fnExactSearchTrailWrong : ChangeSpec := { name := "fnExactSearchTrail", fn := fun _ => fun
  | [d1, d2, d3, d4, d5] => { results := [.lit (.bool false)], args := [d1, d2, d3, d4, d5] }
  | _ => none }
def FnExactSearchTrailWrongFalsely : Prop := fnExactSearchTrailRow.holds Try.pinned (OpenSpec.ofChange fnExactSearchTrailWrong)

/-- 'laws.FnExactCountWalks': WHATEVER THE INPUT: true; the input reads as it did. -/
def fnExactCountWalksSpec : ChangeSpec := { name := "fnExactCountWalks", fn := fun _ => fun
  | [d1, d2, d3, d4, d5] => { results := [.lit (.bool true)], args := [d1, d2, d3, d4, d5] }
  | _ => none }
def fnExactCountWalksRow : OpenClaim := { program := "ytmdgloeejjepmaa", sum := "92b8d533ba3f6acb85f0fceb96737d98de79551433c4fd804a9c62f8b51aaa93", func := "loop.example/g01922/laws.FnExactCountWalks", spec := "fnExactCountWalks", recurses := true, plainKeys := false, apart := false }
def FnExactCountWalksSaid : Prop := fnExactCountWalksRow.holds Try.pinned (OpenSpec.ofChange fnExactCountWalksSpec)

/-- ITS FALSE NEIGHBOUR: 'it returns false'. Refute it at one input. -/
def fnExactCountWalksWrong : ChangeSpec := { name := "fnExactCountWalks", fn := fun _ => fun
  | [d1, d2, d3, d4, d5] => { results := [.lit (.bool false)], args := [d1, d2, d3, d4, d5] }
  | _ => none }
def FnExactCountWalksWrongFalsely : Prop := fnExactCountWalksRow.holds Try.pinned (OpenSpec.ofChange fnExactCountWalksWrong)

/- THE SECOND FORM. 'bulk': how many values and letters a reading holds, each counted each time it is reached (what is shared counts as often as it is met; a slice's spare places count too). A statement '..UptoSaid' is the law's where the arguments, and the package variables that the reading takes, are together of bulk at most 1048576: NARROWER than '..Said'. Prove '..Said' where nothing that the law and all that it calls make is longer than what came in: it says more and counts as full. Else prove '..UptoSaid'. A law counts once. -/
mutual
def uptoBulk {H : Type} : DataW H → Nat
  | .lit (.string bytes) => bytes.length + 1
  | .lit _ => 1
  | .nil => 1
  | .ptr d => uptoBulk d + 1
  | .slice elems spare => uptoBulkAll elems + uptoBulkAll spare + 1
  | .agg parts => uptoBulkAll parts + 1
  | .iface _ d => uptoBulk d + 1
  | .map entries => uptoBulkEntries entries + 1
  | .held _ => 1
def uptoBulkAll {H : Type} : List (DataW H) → Nat
  | [] => 0
  | d :: r => uptoBulk d + uptoBulkAll r
def uptoBulkEntries {H : Type} : List (Lit × DataW H) → Nat
  | [] => 0
  | x :: r => uptoBulkEntry x + uptoBulkEntries r
def uptoBulkEntry {H : Type} : Lit × DataW H → Nat
  | (.string bytes, d) => bytes.length + uptoBulk d + 1
  | (_, d) => uptoBulk d + 1
 end
def uptoSmall : (H : Type) → List (DataW H) → Bool := fun _ ds => decide (uptoBulkAll ds ≤ 1048576)
def OpenSpec.upto (s : _root_.Go.ChangeSpec) : _root_.Go.OpenSpec := { _root_.Go.OpenSpec.ofChange s with cond := some uptoSmall }

/-- 'laws.FnExactInvertRelation', WHERE WHAT IT READS IS OF BULK AT MOST 1048576: true; the input reads as it did. -/
def fnExactInvertRelationUptoRow : OpenClaim := { program := "ytmdgloeejjepmaa", sum := "92b8d533ba3f6acb85f0fceb96737d98de79551433c4fd804a9c62f8b51aaa93", func := "loop.example/g01922/laws.FnExactInvertRelation", spec := "fnExactInvertRelation", unfollowed := true, recurses := true, plainKeys := false, apart := false, narrowed := true }
def FnExactInvertRelationUptoSaid : Prop := fnExactInvertRelationUptoRow.holds Try.pinned (OpenSpec.upto fnExactInvertRelationSpec)

/-- 'laws.FnExactComposeRelations', WHERE WHAT IT READS IS OF BULK AT MOST 1048576: true; the input reads as it did. -/
def fnExactComposeRelationsUptoRow : OpenClaim := { program := "ytmdgloeejjepmaa", sum := "92b8d533ba3f6acb85f0fceb96737d98de79551433c4fd804a9c62f8b51aaa93", func := "loop.example/g01922/laws.FnExactComposeRelations", spec := "fnExactComposeRelations", unfollowed := true, recurses := true, plainKeys := false, apart := false, narrowed := true }
def FnExactComposeRelationsUptoSaid : Prop := fnExactComposeRelationsUptoRow.holds Try.pinned (OpenSpec.upto fnExactComposeRelationsSpec)

/-- 'laws.FnExactClosureRelation', WHERE WHAT IT READS IS OF BULK AT MOST 1048576: true; the input reads as it did. -/
def fnExactClosureRelationUptoRow : OpenClaim := { program := "ytmdgloeejjepmaa", sum := "92b8d533ba3f6acb85f0fceb96737d98de79551433c4fd804a9c62f8b51aaa93", func := "loop.example/g01922/laws.FnExactClosureRelation", spec := "fnExactClosureRelation", unfollowed := true, recurses := true, plainKeys := false, apart := false, narrowed := true }
def FnExactClosureRelationUptoSaid : Prop := fnExactClosureRelationUptoRow.holds Try.pinned (OpenSpec.upto fnExactClosureRelationSpec)

/-- 'laws.FnExactPowerRelation', WHERE WHAT IT READS IS OF BULK AT MOST 1048576: true; the input reads as it did. -/
def fnExactPowerRelationUptoRow : OpenClaim := { program := "ytmdgloeejjepmaa", sum := "92b8d533ba3f6acb85f0fceb96737d98de79551433c4fd804a9c62f8b51aaa93", func := "loop.example/g01922/laws.FnExactPowerRelation", spec := "fnExactPowerRelation", unfollowed := true, recurses := true, plainKeys := false, apart := false, narrowed := true }
def FnExactPowerRelationUptoSaid : Prop := fnExactPowerRelationUptoRow.holds Try.pinned (OpenSpec.upto fnExactPowerRelationSpec)

/-- 'laws.FnExactLetterRelation', WHERE WHAT IT READS IS OF BULK AT MOST 1048576: true; the input reads as it did. -/
def fnExactLetterRelationUptoRow : OpenClaim := { program := "ytmdgloeejjepmaa", sum := "92b8d533ba3f6acb85f0fceb96737d98de79551433c4fd804a9c62f8b51aaa93", func := "loop.example/g01922/laws.FnExactLetterRelation", spec := "fnExactLetterRelation", unfollowed := true, recurses := true, plainKeys := false, apart := false, narrowed := true }
def FnExactLetterRelationUptoSaid : Prop := fnExactLetterRelationUptoRow.holds Try.pinned (OpenSpec.upto fnExactLetterRelationSpec)

/-- 'laws.FnExactLoopImages', WHERE WHAT IT READS IS OF BULK AT MOST 1048576: true; the input reads as it did. -/
def fnExactLoopImagesUptoRow : OpenClaim := { program := "ytmdgloeejjepmaa", sum := "92b8d533ba3f6acb85f0fceb96737d98de79551433c4fd804a9c62f8b51aaa93", func := "loop.example/g01922/laws.FnExactLoopImages", spec := "fnExactLoopImages", unfollowed := true, recurses := true, plainKeys := false, apart := false, narrowed := true }
def FnExactLoopImagesUptoSaid : Prop := fnExactLoopImagesUptoRow.holds Try.pinned (OpenSpec.upto fnExactLoopImagesSpec)

/-- 'laws.FnExactPumpedStates', WHERE WHAT IT READS IS OF BULK AT MOST 1048576: true; the input reads as it did. -/
def fnExactPumpedStatesUptoRow : OpenClaim := { program := "ytmdgloeejjepmaa", sum := "92b8d533ba3f6acb85f0fceb96737d98de79551433c4fd804a9c62f8b51aaa93", func := "loop.example/g01922/laws.FnExactPumpedStates", spec := "fnExactPumpedStates", unfollowed := true, recurses := true, plainKeys := false, apart := false, narrowed := true }
def FnExactPumpedStatesUptoSaid : Prop := fnExactPumpedStatesUptoRow.holds Try.pinned (OpenSpec.upto fnExactPumpedStatesSpec)

/-- 'laws.FnExactIsUnambiguous', WHERE WHAT IT READS IS OF BULK AT MOST 1048576: true; the input reads as it did. -/
def fnExactIsUnambiguousUptoRow : OpenClaim := { program := "ytmdgloeejjepmaa", sum := "92b8d533ba3f6acb85f0fceb96737d98de79551433c4fd804a9c62f8b51aaa93", func := "loop.example/g01922/laws.FnExactIsUnambiguous", spec := "fnExactIsUnambiguous", unfollowed := true, recurses := true, plainKeys := false, apart := false, narrowed := true }
def FnExactIsUnambiguousUptoSaid : Prop := fnExactIsUnambiguousUptoRow.holds Try.pinned (OpenSpec.upto fnExactIsUnambiguousSpec)

/-- 'laws.FnExactAmbiguousWord', WHERE WHAT IT READS IS OF BULK AT MOST 1048576: true; the input reads as it did. -/
def fnExactAmbiguousWordUptoRow : OpenClaim := { program := "ytmdgloeejjepmaa", sum := "92b8d533ba3f6acb85f0fceb96737d98de79551433c4fd804a9c62f8b51aaa93", func := "loop.example/g01922/laws.FnExactAmbiguousWord", spec := "fnExactAmbiguousWord", unfollowed := true, recurses := true, plainKeys := false, apart := false, narrowed := true }
def FnExactAmbiguousWordUptoSaid : Prop := fnExactAmbiguousWordUptoRow.holds Try.pinned (OpenSpec.upto fnExactAmbiguousWordSpec)

/-- 'laws.FnExactSearchSimplePath', WHERE WHAT IT READS IS OF BULK AT MOST 1048576: true; the input reads as it did. -/
def fnExactSearchSimplePathUptoRow : OpenClaim := { program := "ytmdgloeejjepmaa", sum := "92b8d533ba3f6acb85f0fceb96737d98de79551433c4fd804a9c62f8b51aaa93", func := "loop.example/g01922/laws.FnExactSearchSimplePath", spec := "fnExactSearchSimplePath", recurses := true, plainKeys := false, apart := false, narrowed := true }
def FnExactSearchSimplePathUptoSaid : Prop := fnExactSearchSimplePathUptoRow.holds Try.pinned (OpenSpec.upto fnExactSearchSimplePathSpec)

/-- 'laws.FnExactSearchTrail', WHERE WHAT IT READS IS OF BULK AT MOST 1048576: true; the input reads as it did. -/
def fnExactSearchTrailUptoRow : OpenClaim := { program := "ytmdgloeejjepmaa", sum := "92b8d533ba3f6acb85f0fceb96737d98de79551433c4fd804a9c62f8b51aaa93", func := "loop.example/g01922/laws.FnExactSearchTrail", spec := "fnExactSearchTrail", recurses := true, plainKeys := false, apart := false, narrowed := true }
def FnExactSearchTrailUptoSaid : Prop := fnExactSearchTrailUptoRow.holds Try.pinned (OpenSpec.upto fnExactSearchTrailSpec)

/-- 'laws.FnExactCountWalks', WHERE WHAT IT READS IS OF BULK AT MOST 1048576: true; the input reads as it did. -/
def fnExactCountWalksUptoRow : OpenClaim := { program := "ytmdgloeejjepmaa", sum := "92b8d533ba3f6acb85f0fceb96737d98de79551433c4fd804a9c62f8b51aaa93", func := "loop.example/g01922/laws.FnExactCountWalks", spec := "fnExactCountWalks", recurses := true, plainKeys := false, apart := false, narrowed := true }
def FnExactCountWalksUptoSaid : Prop := fnExactCountWalksUptoRow.holds Try.pinned (OpenSpec.upto fnExactCountWalksSpec)

end Rows
end Go.Proofs.Ytmdgloeejjepmaa
