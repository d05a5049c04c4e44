/-
  No cell of these rows narrows 'for every input' (looked for: loops, veiled, ifaces, maps, wideKeys, modest, calm, conditions, laid).
  DERIVED. THE GIVEN ROWS OF THIS SEAT. 10 by the template 'for every input the law returns true; each argument reads behind the call as it read before'; 0 by the template 'total and deterministic' (their statements: YtgdgelkeflihpaaTotals.lean).
  GIVEN WITH THE SEED: the statements are not yours to turn. If you find one false, say at which input.
  Laid BY PROGRAM, IN A SANDBOX (cutbox-rows.mjs): the forced cells as the released guide's own fill.sh prints them over the translation 2f60f053e7ee08fb… (all of the seat's roots in one cut). By AI agents, Wed Nov 11 2026. No macro, syntax, notation, axiom, sorry.
-/
import Derived.Test.YtgdgelkeflihpaaChecked
import GoSem.Claim
import GoSem.ClaimJoined
import GoSem.ClaimMapViews
import Derived.JoinedTies
import Derived.KernelRfl
namespace Go.Proofs.Ytgdgelkeflihpaa
/- THE CELL 'sum', in the pinned program and in every row, IS THE sha256 OF THE DUMP (.gsa) THAT YtgdgelkeflihpaaProg.lean LOADS. Nothing in Lean hashes anything: it is a label: what it is worth is what the hold of that sum in a sandbox is worth. -/
noncomputable def Try.pinned : Pinned := { name := "ytgdgelkeflihpaa", sum := "2f60f053e7ee08fbe7caad23d393157c296595d4c76ea4178ac443143791f47a", checked := Try.checked }
namespace Rows
def none {H : Type} : Left H := { results := [], args := [] }

/-- 'laws.FnExactLoopImages': WHATEVER THE INPUT: true; the input reads as it did. -/
def fnExactLoopImagesSpec : ChangeSpec := { name := "fnExactLoopImages", fn := fun _ => fun
  | [d1, d2, d3] => { results := [.lit (.bool true)], args := [d1, d2, d3] }
  | _ => none }
def fnExactLoopImagesRow : OpenClaim := { program := "ytgdgelkeflihpaa", sum := "2f60f053e7ee08fbe7caad23d393157c296595d4c76ea4178ac443143791f47a", func := "loop.example/g01922/laws.FnExactLoopImages", spec := "fnExactLoopImages", unfollowed := true, recurses := true, plainKeys := false, apart := false }
def FnExactLoopImagesSaid : Prop := fnExactLoopImagesRow.holds Try.pinned (OpenSpec.ofChange fnExactLoopImagesSpec)

/-- ITS FALSE NEIGHBOUR: 'it returns false'. Refute it at one input. -/
def fnExactLoopImagesWrong : ChangeSpec := { name := "fnExactLoopImages", fn := fun _ => fun
  | [d1, d2, d3] => { results := [.lit (.bool false)], args := [d1, d2, d3] }
  | _ => none }
def FnExactLoopImagesWrongFalsely : Prop := fnExactLoopImagesRow.holds Try.pinned (OpenSpec.ofChange fnExactLoopImagesWrong)

/-- 'laws.FnExactPumpedStates': WHATEVER THE INPUT: true; the input reads as it did. -/
def fnExactPumpedStatesSpec : ChangeSpec := { name := "fnExactPumpedStates", fn := fun _ => fun
  | [d1, d2, d3, d4] => { results := [.lit (.bool true)], args := [d1, d2, d3, d4] }
  | _ => none }
def fnExactPumpedStatesRow : OpenClaim := { program := "ytgdgelkeflihpaa", sum := "2f60f053e7ee08fbe7caad23d393157c296595d4c76ea4178ac443143791f47a", func := "loop.example/g01922/laws.FnExactPumpedStates", spec := "fnExactPumpedStates", unfollowed := true, recurses := true, plainKeys := false, apart := false }
def FnExactPumpedStatesSaid : Prop := fnExactPumpedStatesRow.holds Try.pinned (OpenSpec.ofChange fnExactPumpedStatesSpec)

/-- ITS FALSE NEIGHBOUR: 'it returns false'. Refute it at one input. -/
def fnExactPumpedStatesWrong : ChangeSpec := { name := "fnExactPumpedStates", fn := fun _ => fun
  | [d1, d2, d3, d4] => { results := [.lit (.bool false)], args := [d1, d2, d3, d4] }
  | _ => none }
def FnExactPumpedStatesWrongFalsely : Prop := fnExactPumpedStatesRow.holds Try.pinned (OpenSpec.ofChange fnExactPumpedStatesWrong)

/-- 'laws.FnExactCountWalks': WHATEVER THE INPUT: true; the input reads as it did. -/
def fnExactCountWalksSpec : ChangeSpec := { name := "fnExactCountWalks", fn := fun _ => fun
  | [d1, d2, d3, d4, d5] => { results := [.lit (.bool true)], args := [d1, d2, d3, d4, d5] }
  | _ => none }
def fnExactCountWalksRow : OpenClaim := { program := "ytgdgelkeflihpaa", sum := "2f60f053e7ee08fbe7caad23d393157c296595d4c76ea4178ac443143791f47a", func := "loop.example/g01922/laws.FnExactCountWalks", spec := "fnExactCountWalks", recurses := true, plainKeys := false, apart := false }
def FnExactCountWalksSaid : Prop := fnExactCountWalksRow.holds Try.pinned (OpenSpec.ofChange fnExactCountWalksSpec)

/-- ITS FALSE NEIGHBOUR: 'it returns false'. Refute it at one input. -/
def fnExactCountWalksWrong : ChangeSpec := { name := "fnExactCountWalks", fn := fun _ => fun
  | [d1, d2, d3, d4, d5] => { results := [.lit (.bool false)], args := [d1, d2, d3, d4, d5] }
  | _ => none }
def FnExactCountWalksWrongFalsely : Prop := fnExactCountWalksRow.holds Try.pinned (OpenSpec.ofChange fnExactCountWalksWrong)

/-- 'laws.FnExactCountShortest': WHATEVER THE INPUT: true; the input reads as it did. -/
def fnExactCountShortestSpec : ChangeSpec := { name := "fnExactCountShortest", fn := fun _ => fun
  | [d1, d2, d3, d4] => { results := [.lit (.bool true)], args := [d1, d2, d3, d4] }
  | _ => none }
def fnExactCountShortestRow : OpenClaim := { program := "ytgdgelkeflihpaa", sum := "2f60f053e7ee08fbe7caad23d393157c296595d4c76ea4178ac443143791f47a", func := "loop.example/g01922/laws.FnExactCountShortest", spec := "fnExactCountShortest", recurses := true, plainKeys := false, apart := false }
def FnExactCountShortestSaid : Prop := fnExactCountShortestRow.holds Try.pinned (OpenSpec.ofChange fnExactCountShortestSpec)

/-- ITS FALSE NEIGHBOUR: 'it returns false'. Refute it at one input. -/
def fnExactCountShortestWrong : ChangeSpec := { name := "fnExactCountShortest", fn := fun _ => fun
  | [d1, d2, d3, d4] => { results := [.lit (.bool false)], args := [d1, d2, d3, d4] }
  | _ => none }
def FnExactCountShortestWrongFalsely : Prop := fnExactCountShortestRow.holds Try.pinned (OpenSpec.ofChange fnExactCountShortestWrong)

/-- 'laws.FnExactNthShortest': WHATEVER THE INPUT: true; the input reads as it did. -/
def fnExactNthShortestSpec : ChangeSpec := { name := "fnExactNthShortest", fn := fun _ => fun
  | [d1, d2, d3, d4, d5] => { results := [.lit (.bool true)], args := [d1, d2, d3, d4, d5] }
  | _ => none }
def fnExactNthShortestRow : OpenClaim := { program := "ytgdgelkeflihpaa", sum := "2f60f053e7ee08fbe7caad23d393157c296595d4c76ea4178ac443143791f47a", func := "loop.example/g01922/laws.FnExactNthShortest", spec := "fnExactNthShortest", recurses := true, plainKeys := false, apart := false }
def FnExactNthShortestSaid : Prop := fnExactNthShortestRow.holds Try.pinned (OpenSpec.ofChange fnExactNthShortestSpec)

/-- ITS FALSE NEIGHBOUR: 'it returns false'. Refute it at one input. -/
def fnExactNthShortestWrong : ChangeSpec := { name := "fnExactNthShortest", fn := fun _ => fun
  | [d1, d2, d3, d4, d5] => { results := [.lit (.bool false)], args := [d1, d2, d3, d4, d5] }
  | _ => none }
def FnExactNthShortestWrongFalsely : Prop := fnExactNthShortestRow.holds Try.pinned (OpenSpec.ofChange fnExactNthShortestWrong)

/-- 'laws.FnExactNthWalk': WHATEVER THE INPUT: true; the input reads as it did. -/
def fnExactNthWalkSpec : ChangeSpec := { name := "fnExactNthWalk", fn := fun _ => fun
  | [d1, d2, d3, d4, d5] => { results := [.lit (.bool true)], args := [d1, d2, d3, d4, d5] }
  | _ => none }
def fnExactNthWalkRow : OpenClaim := { program := "ytgdgelkeflihpaa", sum := "2f60f053e7ee08fbe7caad23d393157c296595d4c76ea4178ac443143791f47a", func := "loop.example/g01922/laws.FnExactNthWalk", spec := "fnExactNthWalk", recurses := true, plainKeys := false, apart := false }
def FnExactNthWalkSaid : Prop := fnExactNthWalkRow.holds Try.pinned (OpenSpec.ofChange fnExactNthWalkSpec)

/-- ITS FALSE NEIGHBOUR: 'it returns false'. Refute it at one input. -/
def fnExactNthWalkWrong : ChangeSpec := { name := "fnExactNthWalk", fn := fun _ => fun
  | [d1, d2, d3, d4, d5] => { results := [.lit (.bool false)], args := [d1, d2, d3, d4, d5] }
  | _ => none }
def FnExactNthWalkWrongFalsely : Prop := fnExactNthWalkRow.holds Try.pinned (OpenSpec.ofChange fnExactNthWalkWrong)

/-- 'laws.FnExactListShortest': WHATEVER THE INPUT: true; the input reads as it did. -/
def fnExactListShortestSpec : ChangeSpec := { name := "fnExactListShortest", fn := fun _ => fun
  | [d1, d2, d3, d4, d5] => { results := [.lit (.bool true)], args := [d1, d2, d3, d4, d5] }
  | _ => none }
def fnExactListShortestRow : OpenClaim := { program := "ytgdgelkeflihpaa", sum := "2f60f053e7ee08fbe7caad23d393157c296595d4c76ea4178ac443143791f47a", func := "loop.example/g01922/laws.FnExactListShortest", spec := "fnExactListShortest", recurses := true, plainKeys := false, apart := false }
def FnExactListShortestSaid : Prop := fnExactListShortestRow.holds Try.pinned (OpenSpec.ofChange fnExactListShortestSpec)

/-- ITS FALSE NEIGHBOUR: 'it returns false'. Refute it at one input. -/
def fnExactListShortestWrong : ChangeSpec := { name := "fnExactListShortest", fn := fun _ => fun
  | [d1, d2, d3, d4, d5] => { results := [.lit (.bool false)], args := [d1, d2, d3, d4, d5] }
  | _ => none }
def FnExactListShortestWrongFalsely : Prop := fnExactListShortestRow.holds Try.pinned (OpenSpec.ofChange fnExactListShortestWrong)

/-- 'laws.FnExactRankShortest': WHATEVER THE INPUT: true; the input reads as it did. -/
def fnExactRankShortestSpec : ChangeSpec := { name := "fnExactRankShortest", fn := fun _ => fun
  | [d1, d2, d3, d4, d5] => { results := [.lit (.bool true)], args := [d1, d2, d3, d4, d5] }
  | _ => none }
def fnExactRankShortestRow : OpenClaim := { program := "ytgdgelkeflihpaa", sum := "2f60f053e7ee08fbe7caad23d393157c296595d4c76ea4178ac443143791f47a", func := "loop.example/g01922/laws.FnExactRankShortest", spec := "fnExactRankShortest", unfollowed := true, recurses := true, plainKeys := false, apart := false }
def FnExactRankShortestSaid : Prop := fnExactRankShortestRow.holds Try.pinned (OpenSpec.ofChange fnExactRankShortestSpec)

/-- ITS FALSE NEIGHBOUR: 'it returns false'. Refute it at one input. -/
def fnExactRankShortestWrong : ChangeSpec := { name := "fnExactRankShortest", fn := fun _ => fun
  | [d1, d2, d3, d4, d5] => { results := [.lit (.bool false)], args := [d1, d2, d3, d4, d5] }
  | _ => none }
def FnExactRankShortestWrongFalsely : Prop := fnExactRankShortestRow.holds Try.pinned (OpenSpec.ofChange fnExactRankShortestWrong)

/-- 'laws.FnExactLeastWitness': WHATEVER THE INPUT: true; the input reads as it did. -/
def fnExactLeastWitnessSpec : ChangeSpec := { name := "fnExactLeastWitness", fn := fun _ => fun
  | [d1, d2, d3, d4] => { results := [.lit (.bool true)], args := [d1, d2, d3, d4] }
  | _ => none }
def fnExactLeastWitnessRow : OpenClaim := { program := "ytgdgelkeflihpaa", sum := "2f60f053e7ee08fbe7caad23d393157c296595d4c76ea4178ac443143791f47a", func := "loop.example/g01922/laws.FnExactLeastWitness", spec := "fnExactLeastWitness", recurses := true, plainKeys := false, apart := false }
def FnExactLeastWitnessSaid : Prop := fnExactLeastWitnessRow.holds Try.pinned (OpenSpec.ofChange fnExactLeastWitnessSpec)

/-- ITS FALSE NEIGHBOUR: 'it returns false'. Refute it at one input. -/
def fnExactLeastWitnessWrong : ChangeSpec := { name := "fnExactLeastWitness", fn := fun _ => fun
  | [d1, d2, d3, d4] => { results := [.lit (.bool false)], args := [d1, d2, d3, d4] }
  | _ => none }
def FnExactLeastWitnessWrongFalsely : Prop := fnExactLeastWitnessRow.holds Try.pinned (OpenSpec.ofChange fnExactLeastWitnessWrong)

/-- 'laws.FnExactIsUnambiguous': WHATEVER THE INPUT: true; the input reads as it did. -/
def fnExactIsUnambiguousSpec : ChangeSpec := { name := "fnExactIsUnambiguous", fn := fun _ => fun
  | [d] => { results := [.lit (.bool true)], args := [d] }
  | _ => none }
def fnExactIsUnambiguousRow : OpenClaim := { program := "ytgdgelkeflihpaa", sum := "2f60f053e7ee08fbe7caad23d393157c296595d4c76ea4178ac443143791f47a", func := "loop.example/g01922/laws.FnExactIsUnambiguous", spec := "fnExactIsUnambiguous", unfollowed := true, recurses := true, plainKeys := false, apart := false }
def FnExactIsUnambiguousSaid : Prop := fnExactIsUnambiguousRow.holds Try.pinned (OpenSpec.ofChange fnExactIsUnambiguousSpec)

/-- ITS FALSE NEIGHBOUR: 'it returns false'. Refute it at one input. -/
def fnExactIsUnambiguousWrong : ChangeSpec := { name := "fnExactIsUnambiguous", fn := fun _ => fun
  | [d] => { results := [.lit (.bool false)], args := [d] }
  | _ => none }
def FnExactIsUnambiguousWrongFalsely : Prop := fnExactIsUnambiguousRow.holds Try.pinned (OpenSpec.ofChange fnExactIsUnambiguousWrong)

/- THE SECOND FORM. 'bulk': how many values and letters a reading holds, each counted each time it is reached (what is shared counts as often as it is met; a slice's spare places count too). A statement '..UptoSaid' is the law's where the arguments, and the package variables that the reading takes, are together of bulk at most 1048576: NARROWER than '..Said'. Prove '..Said' where nothing that the law and all that it calls make is longer than what came in: it says more and counts as full. Else prove '..UptoSaid'. A law counts once. -/
mutual
def uptoBulk {H : Type} : DataW H → Nat
  | .lit (.string bytes) => bytes.length + 1
  | .lit _ => 1
  | .nil => 1
  | .ptr d => uptoBulk d + 1
  | .slice elems spare => uptoBulkAll elems + uptoBulkAll spare + 1
  | .agg parts => uptoBulkAll parts + 1
  | .iface _ d => uptoBulk d + 1
  | .map entries => uptoBulkEntries entries + 1
  | .held _ => 1
def uptoBulkAll {H : Type} : List (DataW H) → Nat
  | [] => 0
  | d :: r => uptoBulk d + uptoBulkAll r
def uptoBulkEntries {H : Type} : List (Lit × DataW H) → Nat
  | [] => 0
  | x :: r => uptoBulkEntry x + uptoBulkEntries r
def uptoBulkEntry {H : Type} : Lit × DataW H → Nat
  | (.string bytes, d) => bytes.length + uptoBulk d + 1
  | (_, d) => uptoBulk d + 1
 end
def uptoSmall : (H : Type) → List (DataW H) → Bool := fun _ ds => decide (uptoBulkAll ds ≤ 1048576)
def OpenSpec.upto (s : _root_.Go.ChangeSpec) : _root_.Go.OpenSpec := { _root_.Go.OpenSpec.ofChange s with cond := some uptoSmall }

/-- 'laws.FnExactLoopImages', WHERE WHAT IT READS IS OF BULK AT MOST 1048576: true; the input reads as it did. -/
def fnExactLoopImagesUptoRow : OpenClaim := { program := "ytgdgelkeflihpaa", sum := "2f60f053e7ee08fbe7caad23d393157c296595d4c76ea4178ac443143791f47a", func := "loop.example/g01922/laws.FnExactLoopImages", spec := "fnExactLoopImages", unfollowed := true, recurses := true, plainKeys := false, apart := false, narrowed := true }
def FnExactLoopImagesUptoSaid : Prop := fnExactLoopImagesUptoRow.holds Try.pinned (OpenSpec.upto fnExactLoopImagesSpec)

/-- 'laws.FnExactPumpedStates', WHERE WHAT IT READS IS OF BULK AT MOST 1048576: true; the input reads as it did. -/
def fnExactPumpedStatesUptoRow : OpenClaim := { program := "ytgdgelkeflihpaa", sum := "2f60f053e7ee08fbe7caad23d393157c296595d4c76ea4178ac443143791f47a", func := "loop.example/g01922/laws.FnExactPumpedStates", spec := "fnExactPumpedStates", unfollowed := true, recurses := true, plainKeys := false, apart := false, narrowed := true }
def FnExactPumpedStatesUptoSaid : Prop := fnExactPumpedStatesUptoRow.holds Try.pinned (OpenSpec.upto fnExactPumpedStatesSpec)

/-- 'laws.FnExactCountWalks', WHERE WHAT IT READS IS OF BULK AT MOST 1048576: true; the input reads as it did. -/
def fnExactCountWalksUptoRow : OpenClaim := { program := "ytgdgelkeflihpaa", sum := "2f60f053e7ee08fbe7caad23d393157c296595d4c76ea4178ac443143791f47a", func := "loop.example/g01922/laws.FnExactCountWalks", spec := "fnExactCountWalks", recurses := true, plainKeys := false, apart := false, narrowed := true }
def FnExactCountWalksUptoSaid : Prop := fnExactCountWalksUptoRow.holds Try.pinned (OpenSpec.upto fnExactCountWalksSpec)

/-- 'laws.FnExactCountShortest', WHERE WHAT IT READS IS OF BULK AT MOST 1048576: true; the input reads as it did. -/
def fnExactCountShortestUptoRow : OpenClaim := { program := "ytgdgelkeflihpaa", sum := "2f60f053e7ee08fbe7caad23d393157c296595d4c76ea4178ac443143791f47a", func := "loop.example/g01922/laws.FnExactCountShortest", spec := "fnExactCountShortest", recurses := true, plainKeys := false, apart := false, narrowed := true }
def FnExactCountShortestUptoSaid : Prop := fnExactCountShortestUptoRow.holds Try.pinned (OpenSpec.upto fnExactCountShortestSpec)

/-- 'laws.FnExactNthShortest', WHERE WHAT IT READS IS OF BULK AT MOST 1048576: true; the input reads as it did. -/
def fnExactNthShortestUptoRow : OpenClaim := { program := "ytgdgelkeflihpaa", sum := "2f60f053e7ee08fbe7caad23d393157c296595d4c76ea4178ac443143791f47a", func := "loop.example/g01922/laws.FnExactNthShortest", spec := "fnExactNthShortest", recurses := true, plainKeys := false, apart := false, narrowed := true }
def FnExactNthShortestUptoSaid : Prop := fnExactNthShortestUptoRow.holds Try.pinned (OpenSpec.upto fnExactNthShortestSpec)

/-- 'laws.FnExactNthWalk', WHERE WHAT IT READS IS OF BULK AT MOST 1048576: true; the input reads as it did. -/
def fnExactNthWalkUptoRow : OpenClaim := { program := "ytgdgelkeflihpaa", sum := "2f60f053e7ee08fbe7caad23d393157c296595d4c76ea4178ac443143791f47a", func := "loop.example/g01922/laws.FnExactNthWalk", spec := "fnExactNthWalk", recurses := true, plainKeys := false, apart := false, narrowed := true }
def FnExactNthWalkUptoSaid : Prop := fnExactNthWalkUptoRow.holds Try.pinned (OpenSpec.upto fnExactNthWalkSpec)

/-- 'laws.FnExactListShortest', WHERE WHAT IT READS IS OF BULK AT MOST 1048576: true; the input reads as it did. -/
def fnExactListShortestUptoRow : OpenClaim := { program := "ytgdgelkeflihpaa", sum := "2f60f053e7ee08fbe7caad23d393157c296595d4c76ea4178ac443143791f47a", func := "loop.example/g01922/laws.FnExactListShortest", spec := "fnExactListShortest", recurses := true, plainKeys := false, apart := false, narrowed := true }
def FnExactListShortestUptoSaid : Prop := fnExactListShortestUptoRow.holds Try.pinned (OpenSpec.upto fnExactListShortestSpec)

/-- 'laws.FnExactRankShortest', WHERE WHAT IT READS IS OF BULK AT MOST 1048576: true; the input reads as it did. -/
def fnExactRankShortestUptoRow : OpenClaim := { program := "ytgdgelkeflihpaa", sum := "2f60f053e7ee08fbe7caad23d393157c296595d4c76ea4178ac443143791f47a", func := "loop.example/g01922/laws.FnExactRankShortest", spec := "fnExactRankShortest", unfollowed := true, recurses := true, plainKeys := false, apart := false, narrowed := true }
def FnExactRankShortestUptoSaid : Prop := fnExactRankShortestUptoRow.holds Try.pinned (OpenSpec.upto fnExactRankShortestSpec)

/-- 'laws.FnExactLeastWitness', WHERE WHAT IT READS IS OF BULK AT MOST 1048576: true; the input reads as it did. -/
def fnExactLeastWitnessUptoRow : OpenClaim := { program := "ytgdgelkeflihpaa", sum := "2f60f053e7ee08fbe7caad23d393157c296595d4c76ea4178ac443143791f47a", func := "loop.example/g01922/laws.FnExactLeastWitness", spec := "fnExactLeastWitness", recurses := true, plainKeys := false, apart := false, narrowed := true }
def FnExactLeastWitnessUptoSaid : Prop := fnExactLeastWitnessUptoRow.holds Try.pinned (OpenSpec.upto fnExactLeastWitnessSpec)

/-- 'laws.FnExactIsUnambiguous', WHERE WHAT IT READS IS OF BULK AT MOST 1048576: true; the input reads as it did. -/
def fnExactIsUnambiguousUptoRow : OpenClaim := { program := "ytgdgelkeflihpaa", sum := "2f60f053e7ee08fbe7caad23d393157c296595d4c76ea4178ac443143791f47a", func := "loop.example/g01922/laws.FnExactIsUnambiguous", spec := "fnExactIsUnambiguous", unfollowed := true, recurses := true, plainKeys := false, apart := false, narrowed := true }
def FnExactIsUnambiguousUptoSaid : Prop := fnExactIsUnambiguousUptoRow.holds Try.pinned (OpenSpec.upto fnExactIsUnambiguousSpec)

end Rows
end Go.Proofs.Ytgdgelkeflihpaa
