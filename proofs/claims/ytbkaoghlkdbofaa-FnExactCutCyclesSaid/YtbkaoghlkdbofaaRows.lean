/-
  No cell of these rows narrows 'for every input' (looked for: loops, veiled, ifaces, maps, wideKeys, modest, calm, conditions, laid).
  DERIVED. THE GIVEN ROWS OF THIS SEAT. 12 by the template 'for every input the law returns true; each argument reads behind the call as it read before'; 0 by the template 'total and deterministic' (their statements: YtbkaoghlkdbofaaTotals.lean).
  GIVEN WITH THE SEED: the statements are not yours to turn. If you find one false, say at which input.
  Laid BY PROGRAM, IN A SANDBOX (cutbox-rows.mjs): the forced cells as the released guide's own fill.sh prints them over the translation 81c3d05079d79815… (all of the seat's roots in one cut). By AI agents, Wed Nov 11 2026. No macro, syntax, notation, axiom, sorry.
-/
import Derived.Test.YtbkaoghlkdbofaaChecked
import GoSem.Claim
import GoSem.ClaimJoined
import GoSem.ClaimMapViews
import Derived.JoinedTies
import Derived.KernelRfl
namespace Go.Proofs.Ytbkaoghlkdbofaa
/- THE CELL 'sum', in the pinned program and in every row, IS THE sha256 OF THE DUMP (.gsa) THAT YtbkaoghlkdbofaaProg.lean LOADS. Nothing in Lean hashes anything: it is a label: what it is worth is what the hold of that sum in a sandbox is worth. -/
noncomputable def Try.pinned : Pinned := { name := "ytbkaoghlkdbofaa", sum := "81c3d05079d798154405007d965f34a60cb929cd8056a484afe89db5ccb1e3e0", checked := Try.checked }
namespace Rows
def none {H : Type} : Left H := { results := [], args := [] }

/-- 'laws.FnExactLetterRelation': WHATEVER THE INPUT: true; the input reads as it did. -/
def fnExactLetterRelationSpec : ChangeSpec := { name := "fnExactLetterRelation", fn := fun _ => fun
  | [d1, d2] => { results := [.lit (.bool true)], args := [d1, d2] }
  | _ => none }
def fnExactLetterRelationRow : OpenClaim := { program := "ytbkaoghlkdbofaa", sum := "81c3d05079d798154405007d965f34a60cb929cd8056a484afe89db5ccb1e3e0", func := "loop.example/g01922/laws.FnExactLetterRelation", spec := "fnExactLetterRelation", unfollowed := true, recurses := true, plainKeys := false, apart := false }
def FnExactLetterRelationSaid : Prop := fnExactLetterRelationRow.holds Try.pinned (OpenSpec.ofChange fnExactLetterRelationSpec)

/-- ITS FALSE NEIGHBOUR: 'it returns false'. Refute it at one input. -/
def fnExactLetterRelationWrong : ChangeSpec := { name := "fnExactLetterRelation", fn := fun _ => fun
  | [d1, d2] => { results := [.lit (.bool false)], args := [d1, d2] }
  | _ => none }
def FnExactLetterRelationWrongFalsely : Prop := fnExactLetterRelationRow.holds Try.pinned (OpenSpec.ofChange fnExactLetterRelationWrong)

/-- 'laws.FnExactCutCycles': WHATEVER THE INPUT: true; the input reads as it did. -/
def fnExactCutCyclesSpec : ChangeSpec := { name := "fnExactCutCycles", fn := fun _ => fun
  | [d1, d2] => { results := [.lit (.bool true)], args := [d1, d2] }
  | _ => none }
def fnExactCutCyclesRow : OpenClaim := { program := "ytbkaoghlkdbofaa", sum := "81c3d05079d798154405007d965f34a60cb929cd8056a484afe89db5ccb1e3e0", func := "loop.example/g01922/laws.FnExactCutCycles", spec := "fnExactCutCycles", unfollowed := true, recurses := true, plainKeys := false, apart := false }
def FnExactCutCyclesSaid : Prop := fnExactCutCyclesRow.holds Try.pinned (OpenSpec.ofChange fnExactCutCyclesSpec)

/-- ITS FALSE NEIGHBOUR: 'it returns false'. Refute it at one input. -/
def fnExactCutCyclesWrong : ChangeSpec := { name := "fnExactCutCycles", fn := fun _ => fun
  | [d1, d2] => { results := [.lit (.bool false)], args := [d1, d2] }
  | _ => none }
def FnExactCutCyclesWrongFalsely : Prop := fnExactCutCyclesRow.holds Try.pinned (OpenSpec.ofChange fnExactCutCyclesWrong)

/-- 'laws.FnExactSearchSimplePath': WHATEVER THE INPUT: true; the input reads as it did. -/
def fnExactSearchSimplePathSpec : ChangeSpec := { name := "fnExactSearchSimplePath", fn := fun _ => fun
  | [d1, d2, d3, d4, d5] => { results := [.lit (.bool true)], args := [d1, d2, d3, d4, d5] }
  | _ => none }
def fnExactSearchSimplePathRow : OpenClaim := { program := "ytbkaoghlkdbofaa", sum := "81c3d05079d798154405007d965f34a60cb929cd8056a484afe89db5ccb1e3e0", func := "loop.example/g01922/laws.FnExactSearchSimplePath", spec := "fnExactSearchSimplePath", recurses := true, plainKeys := false, apart := false }
def FnExactSearchSimplePathSaid : Prop := fnExactSearchSimplePathRow.holds Try.pinned (OpenSpec.ofChange fnExactSearchSimplePathSpec)

/-- ITS FALSE NEIGHBOUR: 'it returns false'. Refute it at one input. -/
def fnExactSearchSimplePathWrong : ChangeSpec := { name := "fnExactSearchSimplePath", fn := fun _ => fun
  | [d1, d2, d3, d4, d5] => { results := [.lit (.bool false)], args := [d1, d2, d3, d4, d5] }
  | _ => none }
def FnExactSearchSimplePathWrongFalsely : Prop := fnExactSearchSimplePathRow.holds Try.pinned (OpenSpec.ofChange fnExactSearchSimplePathWrong)

/-- 'laws.FnExactSearchTrail': WHATEVER THE INPUT: true; the input reads as it did. -/
def fnExactSearchTrailSpec : ChangeSpec := { name := "fnExactSearchTrail", fn := fun _ => fun
  | [d1, d2, d3, d4, d5] => { results := [.lit (.bool true)], args := [d1, d2, d3, d4, d5] }
  | _ => none }
def fnExactSearchTrailRow : OpenClaim := { program := "ytbkaoghlkdbofaa", sum := "81c3d05079d798154405007d965f34a60cb929cd8056a484afe89db5ccb1e3e0", func := "loop.example/g01922/laws.FnExactSearchTrail", spec := "fnExactSearchTrail", recurses := true, plainKeys := false, apart := false }
def FnExactSearchTrailSaid : Prop := fnExactSearchTrailRow.holds Try.pinned (OpenSpec.ofChange fnExactSearchTrailSpec)

/-- ITS FALSE NEIGHBOUR: 'it returns false'. Refute it at one input. -/
def fnExactSearchTrailWrong : ChangeSpec := { name := "fnExactSearchTrail", fn := fun _ => fun
  | [d1, d2, d3, d4, d5] => { results := [.lit (.bool false)], args := [d1, d2, d3, d4, d5] }
  | _ => none }
def FnExactSearchTrailWrongFalsely : Prop := fnExactSearchTrailRow.holds Try.pinned (OpenSpec.ofChange fnExactSearchTrailWrong)

/-- 'laws.FnExactSimplePathAnswers': WHATEVER THE INPUT: true; the input reads as it did. -/
def fnExactSimplePathAnswersSpec : ChangeSpec := { name := "fnExactSimplePathAnswers", fn := fun _ => fun
  | [d1, d2, d3] => { results := [.lit (.bool true)], args := [d1, d2, d3] }
  | _ => none }
def fnExactSimplePathAnswersRow : OpenClaim := { program := "ytbkaoghlkdbofaa", sum := "81c3d05079d798154405007d965f34a60cb929cd8056a484afe89db5ccb1e3e0", func := "loop.example/g01922/laws.FnExactSimplePathAnswers", spec := "fnExactSimplePathAnswers", unfollowed := true, recurses := true, plainKeys := false, apart := false }
def FnExactSimplePathAnswersSaid : Prop := fnExactSimplePathAnswersRow.holds Try.pinned (OpenSpec.ofChange fnExactSimplePathAnswersSpec)

/-- ITS FALSE NEIGHBOUR: 'it returns false'. Refute it at one input. -/
def fnExactSimplePathAnswersWrong : ChangeSpec := { name := "fnExactSimplePathAnswers", fn := fun _ => fun
  | [d1, d2, d3] => { results := [.lit (.bool false)], args := [d1, d2, d3] }
  | _ => none }
def FnExactSimplePathAnswersWrongFalsely : Prop := fnExactSimplePathAnswersRow.holds Try.pinned (OpenSpec.ofChange fnExactSimplePathAnswersWrong)

/-- 'laws.FnExactTrailAnswers': WHATEVER THE INPUT: true; the input reads as it did. -/
def fnExactTrailAnswersSpec : ChangeSpec := { name := "fnExactTrailAnswers", fn := fun _ => fun
  | [d1, d2, d3] => { results := [.lit (.bool true)], args := [d1, d2, d3] }
  | _ => none }
def fnExactTrailAnswersRow : OpenClaim := { program := "ytbkaoghlkdbofaa", sum := "81c3d05079d798154405007d965f34a60cb929cd8056a484afe89db5ccb1e3e0", func := "loop.example/g01922/laws.FnExactTrailAnswers", spec := "fnExactTrailAnswers", unfollowed := true, recurses := true, plainKeys := false, apart := false }
def FnExactTrailAnswersSaid : Prop := fnExactTrailAnswersRow.holds Try.pinned (OpenSpec.ofChange fnExactTrailAnswersSpec)

/-- ITS FALSE NEIGHBOUR: 'it returns false'. Refute it at one input. -/
def fnExactTrailAnswersWrong : ChangeSpec := { name := "fnExactTrailAnswers", fn := fun _ => fun
  | [d1, d2, d3] => { results := [.lit (.bool false)], args := [d1, d2, d3] }
  | _ => none }
def FnExactTrailAnswersWrongFalsely : Prop := fnExactTrailAnswersRow.holds Try.pinned (OpenSpec.ofChange fnExactTrailAnswersWrong)

/-- 'laws.FnExactCountWalks': WHATEVER THE INPUT: true; the input reads as it did. -/
def fnExactCountWalksSpec : ChangeSpec := { name := "fnExactCountWalks", fn := fun _ => fun
  | [d1, d2, d3, d4, d5] => { results := [.lit (.bool true)], args := [d1, d2, d3, d4, d5] }
  | _ => none }
def fnExactCountWalksRow : OpenClaim := { program := "ytbkaoghlkdbofaa", sum := "81c3d05079d798154405007d965f34a60cb929cd8056a484afe89db5ccb1e3e0", func := "loop.example/g01922/laws.FnExactCountWalks", spec := "fnExactCountWalks", recurses := true, plainKeys := false, apart := false }
def FnExactCountWalksSaid : Prop := fnExactCountWalksRow.holds Try.pinned (OpenSpec.ofChange fnExactCountWalksSpec)

/-- ITS FALSE NEIGHBOUR: 'it returns false'. Refute it at one input. -/
def fnExactCountWalksWrong : ChangeSpec := { name := "fnExactCountWalks", fn := fun _ => fun
  | [d1, d2, d3, d4, d5] => { results := [.lit (.bool false)], args := [d1, d2, d3, d4, d5] }
  | _ => none }
def FnExactCountWalksWrongFalsely : Prop := fnExactCountWalksRow.holds Try.pinned (OpenSpec.ofChange fnExactCountWalksWrong)

/-- 'laws.FnExactCountShortest': WHATEVER THE INPUT: true; the input reads as it did. -/
def fnExactCountShortestSpec : ChangeSpec := { name := "fnExactCountShortest", fn := fun _ => fun
  | [d1, d2, d3, d4] => { results := [.lit (.bool true)], args := [d1, d2, d3, d4] }
  | _ => none }
def fnExactCountShortestRow : OpenClaim := { program := "ytbkaoghlkdbofaa", sum := "81c3d05079d798154405007d965f34a60cb929cd8056a484afe89db5ccb1e3e0", func := "loop.example/g01922/laws.FnExactCountShortest", spec := "fnExactCountShortest", recurses := true, plainKeys := false, apart := false }
def FnExactCountShortestSaid : Prop := fnExactCountShortestRow.holds Try.pinned (OpenSpec.ofChange fnExactCountShortestSpec)

/-- ITS FALSE NEIGHBOUR: 'it returns false'. Refute it at one input. -/
def fnExactCountShortestWrong : ChangeSpec := { name := "fnExactCountShortest", fn := fun _ => fun
  | [d1, d2, d3, d4] => { results := [.lit (.bool false)], args := [d1, d2, d3, d4] }
  | _ => none }
def FnExactCountShortestWrongFalsely : Prop := fnExactCountShortestRow.holds Try.pinned (OpenSpec.ofChange fnExactCountShortestWrong)

/-- 'laws.FnExactIsUnambiguous': WHATEVER THE INPUT: true; the input reads as it did. -/
def fnExactIsUnambiguousSpec : ChangeSpec := { name := "fnExactIsUnambiguous", fn := fun _ => fun
  | [d] => { results := [.lit (.bool true)], args := [d] }
  | _ => none }
def fnExactIsUnambiguousRow : OpenClaim := { program := "ytbkaoghlkdbofaa", sum := "81c3d05079d798154405007d965f34a60cb929cd8056a484afe89db5ccb1e3e0", func := "loop.example/g01922/laws.FnExactIsUnambiguous", spec := "fnExactIsUnambiguous", unfollowed := true, recurses := true, plainKeys := false, apart := false }
def FnExactIsUnambiguousSaid : Prop := fnExactIsUnambiguousRow.holds Try.pinned (OpenSpec.ofChange fnExactIsUnambiguousSpec)

/-- ITS FALSE NEIGHBOUR: 'it returns false'. Refute it at one input. -/
def fnExactIsUnambiguousWrong : ChangeSpec := { name := "fnExactIsUnambiguous", fn := fun _ => fun
  | [d] => { results := [.lit (.bool false)], args := [d] }
  | _ => none }
def FnExactIsUnambiguousWrongFalsely : Prop := fnExactIsUnambiguousRow.holds Try.pinned (OpenSpec.ofChange fnExactIsUnambiguousWrong)

/-- 'laws.FnExactAmbiguousWord': WHATEVER THE INPUT: true; the input reads as it did. -/
def fnExactAmbiguousWordSpec : ChangeSpec := { name := "fnExactAmbiguousWord", fn := fun _ => fun
  | [d] => { results := [.lit (.bool true)], args := [d] }
  | _ => none }
def fnExactAmbiguousWordRow : OpenClaim := { program := "ytbkaoghlkdbofaa", sum := "81c3d05079d798154405007d965f34a60cb929cd8056a484afe89db5ccb1e3e0", func := "loop.example/g01922/laws.FnExactAmbiguousWord", spec := "fnExactAmbiguousWord", unfollowed := true, recurses := true, plainKeys := false, apart := false }
def FnExactAmbiguousWordSaid : Prop := fnExactAmbiguousWordRow.holds Try.pinned (OpenSpec.ofChange fnExactAmbiguousWordSpec)

/-- ITS FALSE NEIGHBOUR: 'it returns false'. Refute it at one input. -/
def fnExactAmbiguousWordWrong : ChangeSpec := { name := "fnExactAmbiguousWord", fn := fun _ => fun
  | [d] => { results := [.lit (.bool false)], args := [d] }
  | _ => none }
def FnExactAmbiguousWordWrongFalsely : Prop := fnExactAmbiguousWordRow.holds Try.pinned (OpenSpec.ofChange fnExactAmbiguousWordWrong)

/-- 'laws.FnExactLoopImages': WHATEVER THE INPUT: true; the input reads as it did. -/
def fnExactLoopImagesSpec : ChangeSpec := { name := "fnExactLoopImages", fn := fun _ => fun
  | [d1, d2, d3] => { results := [.lit (.bool true)], args := [d1, d2, d3] }
  | _ => none }
def fnExactLoopImagesRow : OpenClaim := { program := "ytbkaoghlkdbofaa", sum := "81c3d05079d798154405007d965f34a60cb929cd8056a484afe89db5ccb1e3e0", func := "loop.example/g01922/laws.FnExactLoopImages", spec := "fnExactLoopImages", unfollowed := true, recurses := true, plainKeys := false, apart := false }
def FnExactLoopImagesSaid : Prop := fnExactLoopImagesRow.holds Try.pinned (OpenSpec.ofChange fnExactLoopImagesSpec)

/-- ITS FALSE NEIGHBOUR: 'it returns false'. Refute it at one input. -/
def fnExactLoopImagesWrong : ChangeSpec := { name := "fnExactLoopImages", fn := fun _ => fun
  | [d1, d2, d3] => { results := [.lit (.bool false)], args := [d1, d2, d3] }
  | _ => none }
def FnExactLoopImagesWrongFalsely : Prop := fnExactLoopImagesRow.holds Try.pinned (OpenSpec.ofChange fnExactLoopImagesWrong)

/-- 'laws.FnExactPumpedStates': WHATEVER THE INPUT: true; the input reads as it did. -/
def fnExactPumpedStatesSpec : ChangeSpec := { name := "fnExactPumpedStates", fn := fun _ => fun
  | [d1, d2, d3, d4] => { results := [.lit (.bool true)], args := [d1, d2, d3, d4] }
  | _ => none }
def fnExactPumpedStatesRow : OpenClaim := { program := "ytbkaoghlkdbofaa", sum := "81c3d05079d798154405007d965f34a60cb929cd8056a484afe89db5ccb1e3e0", func := "loop.example/g01922/laws.FnExactPumpedStates", spec := "fnExactPumpedStates", unfollowed := true, recurses := true, plainKeys := false, apart := false }
def FnExactPumpedStatesSaid : Prop := fnExactPumpedStatesRow.holds Try.pinned (OpenSpec.ofChange fnExactPumpedStatesSpec)

/-- ITS FALSE NEIGHBOUR: 'it returns false'. Refute it at one input. -/
def fnExactPumpedStatesWrong : ChangeSpec := { name := "fnExactPumpedStates", fn := fun _ => fun
  | [d1, d2, d3, d4] => { results := [.lit (.bool false)], args := [d1, d2, d3, d4] }
  | _ => none }
def FnExactPumpedStatesWrongFalsely : Prop := fnExactPumpedStatesRow.holds Try.pinned (OpenSpec.ofChange fnExactPumpedStatesWrong)

/- THE SECOND FORM. 'bulk': how many values and letters a reading holds, each counted each time it is reached (what is shared counts as often as it is met; a slice's spare places count too). A statement '..UptoSaid' is the law's where the arguments, and the package variables that the reading takes, are together of bulk at most 1048576: NARROWER than '..Said'. Prove '..Said' where nothing that the law and all that it calls make is longer than what came in: it says more and counts as full. Else prove '..UptoSaid'. A law counts once. -/
mutual
def uptoBulk {H : Type} : DataW H → Nat
  | .lit (.string bytes) => bytes.length + 1
  | .lit _ => 1
  | .nil => 1
  | .ptr d => uptoBulk d + 1
  | .slice elems spare => uptoBulkAll elems + uptoBulkAll spare + 1
  | .agg parts => uptoBulkAll parts + 1
  | .iface _ d => uptoBulk d + 1
  | .map entries => uptoBulkEntries entries + 1
  | .held _ => 1
def uptoBulkAll {H : Type} : List (DataW H) → Nat
  | [] => 0
  | d :: r => uptoBulk d + uptoBulkAll r
def uptoBulkEntries {H : Type} : List (Lit × DataW H) → Nat
  | [] => 0
  | x :: r => uptoBulkEntry x + uptoBulkEntries r
def uptoBulkEntry {H : Type} : Lit × DataW H → Nat
  | (.string bytes, d) => bytes.length + uptoBulk d + 1
  | (_, d) => uptoBulk d + 1
 end
def uptoSmall : (H : Type) → List (DataW H) → Bool := fun _ ds => decide (uptoBulkAll ds ≤ 1048576)
def OpenSpec.upto (s : _root_.Go.ChangeSpec) : _root_.Go.OpenSpec := { _root_.Go.OpenSpec.ofChange s with cond := some uptoSmall }

/-- 'laws.FnExactLetterRelation', WHERE WHAT IT READS IS OF BULK AT MOST 1048576: true; the input reads as it did. -/
def fnExactLetterRelationUptoRow : OpenClaim := { program := "ytbkaoghlkdbofaa", sum := "81c3d05079d798154405007d965f34a60cb929cd8056a484afe89db5ccb1e3e0", func := "loop.example/g01922/laws.FnExactLetterRelation", spec := "fnExactLetterRelation", unfollowed := true, recurses := true, plainKeys := false, apart := false, narrowed := true }
def FnExactLetterRelationUptoSaid : Prop := fnExactLetterRelationUptoRow.holds Try.pinned (OpenSpec.upto fnExactLetterRelationSpec)

/-- 'laws.FnExactCutCycles', WHERE WHAT IT READS IS OF BULK AT MOST 1048576: true; the input reads as it did. -/
def fnExactCutCyclesUptoRow : OpenClaim := { program := "ytbkaoghlkdbofaa", sum := "81c3d05079d798154405007d965f34a60cb929cd8056a484afe89db5ccb1e3e0", func := "loop.example/g01922/laws.FnExactCutCycles", spec := "fnExactCutCycles", unfollowed := true, recurses := true, plainKeys := false, apart := false, narrowed := true }
def FnExactCutCyclesUptoSaid : Prop := fnExactCutCyclesUptoRow.holds Try.pinned (OpenSpec.upto fnExactCutCyclesSpec)

/-- 'laws.FnExactSearchSimplePath', WHERE WHAT IT READS IS OF BULK AT MOST 1048576: true; the input reads as it did. -/
def fnExactSearchSimplePathUptoRow : OpenClaim := { program := "ytbkaoghlkdbofaa", sum := "81c3d05079d798154405007d965f34a60cb929cd8056a484afe89db5ccb1e3e0", func := "loop.example/g01922/laws.FnExactSearchSimplePath", spec := "fnExactSearchSimplePath", recurses := true, plainKeys := false, apart := false, narrowed := true }
def FnExactSearchSimplePathUptoSaid : Prop := fnExactSearchSimplePathUptoRow.holds Try.pinned (OpenSpec.upto fnExactSearchSimplePathSpec)

/-- 'laws.FnExactSearchTrail', WHERE WHAT IT READS IS OF BULK AT MOST 1048576: true; the input reads as it did. -/
def fnExactSearchTrailUptoRow : OpenClaim := { program := "ytbkaoghlkdbofaa", sum := "81c3d05079d798154405007d965f34a60cb929cd8056a484afe89db5ccb1e3e0", func := "loop.example/g01922/laws.FnExactSearchTrail", spec := "fnExactSearchTrail", recurses := true, plainKeys := false, apart := false, narrowed := true }
def FnExactSearchTrailUptoSaid : Prop := fnExactSearchTrailUptoRow.holds Try.pinned (OpenSpec.upto fnExactSearchTrailSpec)

/-- 'laws.FnExactSimplePathAnswers', WHERE WHAT IT READS IS OF BULK AT MOST 1048576: true; the input reads as it did. -/
def fnExactSimplePathAnswersUptoRow : OpenClaim := { program := "ytbkaoghlkdbofaa", sum := "81c3d05079d798154405007d965f34a60cb929cd8056a484afe89db5ccb1e3e0", func := "loop.example/g01922/laws.FnExactSimplePathAnswers", spec := "fnExactSimplePathAnswers", unfollowed := true, recurses := true, plainKeys := false, apart := false, narrowed := true }
def FnExactSimplePathAnswersUptoSaid : Prop := fnExactSimplePathAnswersUptoRow.holds Try.pinned (OpenSpec.upto fnExactSimplePathAnswersSpec)

/-- 'laws.FnExactTrailAnswers', WHERE WHAT IT READS IS OF BULK AT MOST 1048576: true; the input reads as it did. -/
def fnExactTrailAnswersUptoRow : OpenClaim := { program := "ytbkaoghlkdbofaa", sum := "81c3d05079d798154405007d965f34a60cb929cd8056a484afe89db5ccb1e3e0", func := "loop.example/g01922/laws.FnExactTrailAnswers", spec := "fnExactTrailAnswers", unfollowed := true, recurses := true, plainKeys := false, apart := false, narrowed := true }
def FnExactTrailAnswersUptoSaid : Prop := fnExactTrailAnswersUptoRow.holds Try.pinned (OpenSpec.upto fnExactTrailAnswersSpec)

/-- 'laws.FnExactCountWalks', WHERE WHAT IT READS IS OF BULK AT MOST 1048576: true; the input reads as it did. -/
def fnExactCountWalksUptoRow : OpenClaim := { program := "ytbkaoghlkdbofaa", sum := "81c3d05079d798154405007d965f34a60cb929cd8056a484afe89db5ccb1e3e0", func := "loop.example/g01922/laws.FnExactCountWalks", spec := "fnExactCountWalks", recurses := true, plainKeys := false, apart := false, narrowed := true }
def FnExactCountWalksUptoSaid : Prop := fnExactCountWalksUptoRow.holds Try.pinned (OpenSpec.upto fnExactCountWalksSpec)

/-- 'laws.FnExactCountShortest', WHERE WHAT IT READS IS OF BULK AT MOST 1048576: true; the input reads as it did. -/
def fnExactCountShortestUptoRow : OpenClaim := { program := "ytbkaoghlkdbofaa", sum := "81c3d05079d798154405007d965f34a60cb929cd8056a484afe89db5ccb1e3e0", func := "loop.example/g01922/laws.FnExactCountShortest", spec := "fnExactCountShortest", recurses := true, plainKeys := false, apart := false, narrowed := true }
def FnExactCountShortestUptoSaid : Prop := fnExactCountShortestUptoRow.holds Try.pinned (OpenSpec.upto fnExactCountShortestSpec)

/-- 'laws.FnExactIsUnambiguous', WHERE WHAT IT READS IS OF BULK AT MOST 1048576: true; the input reads as it did. -/
def fnExactIsUnambiguousUptoRow : OpenClaim := { program := "ytbkaoghlkdbofaa", sum := "81c3d05079d798154405007d965f34a60cb929cd8056a484afe89db5ccb1e3e0", func := "loop.example/g01922/laws.FnExactIsUnambiguous", spec := "fnExactIsUnambiguous", unfollowed := true, recurses := true, plainKeys := false, apart := false, narrowed := true }
def FnExactIsUnambiguousUptoSaid : Prop := fnExactIsUnambiguousUptoRow.holds Try.pinned (OpenSpec.upto fnExactIsUnambiguousSpec)

/-- 'laws.FnExactAmbiguousWord', WHERE WHAT IT READS IS OF BULK AT MOST 1048576: true; the input reads as it did. -/
def fnExactAmbiguousWordUptoRow : OpenClaim := { program := "ytbkaoghlkdbofaa", sum := "81c3d05079d798154405007d965f34a60cb929cd8056a484afe89db5ccb1e3e0", func := "loop.example/g01922/laws.FnExactAmbiguousWord", spec := "fnExactAmbiguousWord", unfollowed := true, recurses := true, plainKeys := false, apart := false, narrowed := true }
def FnExactAmbiguousWordUptoSaid : Prop := fnExactAmbiguousWordUptoRow.holds Try.pinned (OpenSpec.upto fnExactAmbiguousWordSpec)

/-- 'laws.FnExactLoopImages', WHERE WHAT IT READS IS OF BULK AT MOST 1048576: true; the input reads as it did. -/
def fnExactLoopImagesUptoRow : OpenClaim := { program := "ytbkaoghlkdbofaa", sum := "81c3d05079d798154405007d965f34a60cb929cd8056a484afe89db5ccb1e3e0", func := "loop.example/g01922/laws.FnExactLoopImages", spec := "fnExactLoopImages", unfollowed := true, recurses := true, plainKeys := false, apart := false, narrowed := true }
def FnExactLoopImagesUptoSaid : Prop := fnExactLoopImagesUptoRow.holds Try.pinned (OpenSpec.upto fnExactLoopImagesSpec)

/-- 'laws.FnExactPumpedStates', WHERE WHAT IT READS IS OF BULK AT MOST 1048576: true; the input reads as it did. -/
def fnExactPumpedStatesUptoRow : OpenClaim := { program := "ytbkaoghlkdbofaa", sum := "81c3d05079d798154405007d965f34a60cb929cd8056a484afe89db5ccb1e3e0", func := "loop.example/g01922/laws.FnExactPumpedStates", spec := "fnExactPumpedStates", unfollowed := true, recurses := true, plainKeys := false, apart := false, narrowed := true }
def FnExactPumpedStatesUptoSaid : Prop := fnExactPumpedStatesUptoRow.holds Try.pinned (OpenSpec.upto fnExactPumpedStatesSpec)

end Rows
end Go.Proofs.Ytbkaoghlkdbofaa
