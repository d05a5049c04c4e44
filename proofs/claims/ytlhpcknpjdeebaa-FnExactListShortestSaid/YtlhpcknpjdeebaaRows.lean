/-
  No cell of these rows narrows 'for every input' (looked for: loops, veiled, ifaces, maps, wideKeys, modest, calm, conditions, laid).
  DERIVED. THE GIVEN ROWS OF THIS SEAT. 4 by the template 'for every input the law returns true; each argument reads behind the call as it read before'; 0 by the template 'total and deterministic' (their statements: YtlhpcknpjdeebaaTotals.lean).
  GIVEN WITH THE SEED: the statements are not yours to turn. If you find one false, say at which input.
  Laid BY PROGRAM, IN A SANDBOX (cutbox-rows.mjs): the forced cells as the released guide's own fill.sh prints them over the translation 1a0e20f7eb659b2f… (all of the seat's roots in one cut). By AI agents, Wed Nov 11 2026. No macro, syntax, notation, axiom, sorry.
-/
import Derived.Test.YtlhpcknpjdeebaaChecked
import GoSem.Claim
import GoSem.ClaimJoined
import GoSem.ClaimMapViews
import Derived.JoinedTies
import Derived.KernelRfl
namespace Go.Proofs.Ytlhpcknpjdeebaa
/- THE CELL 'sum', in the pinned program and in every row, IS THE sha256 OF THE DUMP (.gsa) THAT YtlhpcknpjdeebaaProg.lean LOADS. Nothing in Lean hashes anything: it is a label: what it is worth is what the hold of that sum in a sandbox is worth. -/
noncomputable def Try.pinned : Pinned := { name := "ytlhpcknpjdeebaa", sum := "1a0e20f7eb659b2fd4480d30685ea4106787adf18302146e569ab32a5b055f20", checked := Try.checked }
namespace Rows
def none {H : Type} : Left H := { results := [], args := [] }

/-- 'laws.FnExactNthWalk': WHATEVER THE INPUT: true; the input reads as it did. -/
def fnExactNthWalkSpec : ChangeSpec := { name := "fnExactNthWalk", fn := fun _ => fun
  | [d1, d2, d3, d4, d5] => { results := [.lit (.bool true)], args := [d1, d2, d3, d4, d5] }
  | _ => none }
def fnExactNthWalkRow : OpenClaim := { program := "ytlhpcknpjdeebaa", sum := "1a0e20f7eb659b2fd4480d30685ea4106787adf18302146e569ab32a5b055f20", func := "loop.example/g01922/laws.FnExactNthWalk", spec := "fnExactNthWalk", recurses := true, plainKeys := false, apart := false }
def FnExactNthWalkSaid : Prop := fnExactNthWalkRow.holds Try.pinned (OpenSpec.ofChange fnExactNthWalkSpec)

/-- ITS FALSE NEIGHBOUR: 'it returns false'. Refute it at one input. -/
def fnExactNthWalkWrong : ChangeSpec := { name := "fnExactNthWalk", fn := fun _ => fun
  | [d1, d2, d3, d4, d5] => { results := [.lit (.bool false)], args := [d1, d2, d3, d4, d5] }
  | _ => none }
def FnExactNthWalkWrongFalsely : Prop := fnExactNthWalkRow.holds Try.pinned (OpenSpec.ofChange fnExactNthWalkWrong)

/-- 'laws.FnExactRankShortest': WHATEVER THE INPUT: true; the input reads as it did. -/
def fnExactRankShortestSpec : ChangeSpec := { name := "fnExactRankShortest", fn := fun _ => fun
  | [d1, d2, d3, d4, d5] => { results := [.lit (.bool true)], args := [d1, d2, d3, d4, d5] }
  | _ => none }
def fnExactRankShortestRow : OpenClaim := { program := "ytlhpcknpjdeebaa", sum := "1a0e20f7eb659b2fd4480d30685ea4106787adf18302146e569ab32a5b055f20", func := "loop.example/g01922/laws.FnExactRankShortest", spec := "fnExactRankShortest", unfollowed := true, recurses := true, plainKeys := false, apart := false }
def FnExactRankShortestSaid : Prop := fnExactRankShortestRow.holds Try.pinned (OpenSpec.ofChange fnExactRankShortestSpec)

/-- ITS FALSE NEIGHBOUR: 'it returns false'. Refute it at one input. -/
def fnExactRankShortestWrong : ChangeSpec := { name := "fnExactRankShortest", fn := fun _ => fun
  | [d1, d2, d3, d4, d5] => { results := [.lit (.bool false)], args := [d1, d2, d3, d4, d5] }
  | _ => none }
def FnExactRankShortestWrongFalsely : Prop := fnExactRankShortestRow.holds Try.pinned (OpenSpec.ofChange fnExactRankShortestWrong)

/-- 'laws.FnExactLeastWitness': WHATEVER THE INPUT: true; the input reads as it did. -/
def fnExactLeastWitnessSpec : ChangeSpec := { name := "fnExactLeastWitness", fn := fun _ => fun
  | [d1, d2, d3, d4] => { results := [.lit (.bool true)], args := [d1, d2, d3, d4] }
  | _ => none }
def fnExactLeastWitnessRow : OpenClaim := { program := "ytlhpcknpjdeebaa", sum := "1a0e20f7eb659b2fd4480d30685ea4106787adf18302146e569ab32a5b055f20", func := "loop.example/g01922/laws.FnExactLeastWitness", spec := "fnExactLeastWitness", recurses := true, plainKeys := false, apart := false }
def FnExactLeastWitnessSaid : Prop := fnExactLeastWitnessRow.holds Try.pinned (OpenSpec.ofChange fnExactLeastWitnessSpec)

/-- ITS FALSE NEIGHBOUR: 'it returns false'. Refute it at one input. -/
def fnExactLeastWitnessWrong : ChangeSpec := { name := "fnExactLeastWitness", fn := fun _ => fun
  | [d1, d2, d3, d4] => { results := [.lit (.bool false)], args := [d1, d2, d3, d4] }
  | _ => none }
def FnExactLeastWitnessWrongFalsely : Prop := fnExactLeastWitnessRow.holds Try.pinned (OpenSpec.ofChange fnExactLeastWitnessWrong)

/-- 'laws.FnExactListShortest': WHATEVER THE INPUT: true; the input reads as it did. -/
def fnExactListShortestSpec : ChangeSpec := { name := "fnExactListShortest", fn := fun _ => fun
  | [d1, d2, d3, d4, d5] => { results := [.lit (.bool true)], args := [d1, d2, d3, d4, d5] }
  | _ => none }
def fnExactListShortestRow : OpenClaim := { program := "ytlhpcknpjdeebaa", sum := "1a0e20f7eb659b2fd4480d30685ea4106787adf18302146e569ab32a5b055f20", func := "loop.example/g01922/laws.FnExactListShortest", spec := "fnExactListShortest", recurses := true, plainKeys := false, apart := false }
def FnExactListShortestSaid : Prop := fnExactListShortestRow.holds Try.pinned (OpenSpec.ofChange fnExactListShortestSpec)

/-- ITS FALSE NEIGHBOUR: 'it returns false'. Refute it at one input. -/
def fnExactListShortestWrong : ChangeSpec := { name := "fnExactListShortest", fn := fun _ => fun
  | [d1, d2, d3, d4, d5] => { results := [.lit (.bool false)], args := [d1, d2, d3, d4, d5] }
  | _ => none }
def FnExactListShortestWrongFalsely : Prop := fnExactListShortestRow.holds Try.pinned (OpenSpec.ofChange fnExactListShortestWrong)

/- THE SECOND FORM. 'bulk': how many values and letters a reading holds, each counted each time it is reached (what is shared counts as often as it is met; a slice's spare places count too). A statement '..UptoSaid' is the law's where the arguments, and the package variables that the reading takes, are together of bulk at most 1048576: NARROWER than '..Said'. Prove '..Said' where nothing that the law and all that it calls make is longer than what came in: it says more and counts as full. Else prove '..UptoSaid'. A law counts once. -/
mutual
def uptoBulk {H : Type} : DataW H → Nat
  | .lit (.string bytes) => bytes.length + 1
  | .lit _ => 1
  | .nil => 1
  | .ptr d => uptoBulk d + 1
  | .slice elems spare => uptoBulkAll elems + uptoBulkAll spare + 1
  | .agg parts => uptoBulkAll parts + 1
  | .iface _ d => uptoBulk d + 1
  | .map entries => uptoBulkEntries entries + 1
  | .held _ => 1
def uptoBulkAll {H : Type} : List (DataW H) → Nat
  | [] => 0
  | d :: r => uptoBulk d + uptoBulkAll r
def uptoBulkEntries {H : Type} : List (Lit × DataW H) → Nat
  | [] => 0
  | x :: r => uptoBulkEntry x + uptoBulkEntries r
def uptoBulkEntry {H : Type} : Lit × DataW H → Nat
  | (.string bytes, d) => bytes.length + uptoBulk d + 1
  | (_, d) => uptoBulk d + 1
 end
def uptoSmall : (H : Type) → List (DataW H) → Bool := fun _ ds => decide (uptoBulkAll ds ≤ 1048576)
def OpenSpec.upto (s : _root_.Go.ChangeSpec) : _root_.Go.OpenSpec := { _root_.Go.OpenSpec.ofChange s with cond := some uptoSmall }

/-- 'laws.FnExactNthWalk', WHERE WHAT IT READS IS OF BULK AT MOST 1048576: true; the input reads as it did. -/
def fnExactNthWalkUptoRow : OpenClaim := { program := "ytlhpcknpjdeebaa", sum := "1a0e20f7eb659b2fd4480d30685ea4106787adf18302146e569ab32a5b055f20", func := "loop.example/g01922/laws.FnExactNthWalk", spec := "fnExactNthWalk", recurses := true, plainKeys := false, apart := false, narrowed := true }
def FnExactNthWalkUptoSaid : Prop := fnExactNthWalkUptoRow.holds Try.pinned (OpenSpec.upto fnExactNthWalkSpec)

/-- 'laws.FnExactRankShortest', WHERE WHAT IT READS IS OF BULK AT MOST 1048576: true; the input reads as it did. -/
def fnExactRankShortestUptoRow : OpenClaim := { program := "ytlhpcknpjdeebaa", sum := "1a0e20f7eb659b2fd4480d30685ea4106787adf18302146e569ab32a5b055f20", func := "loop.example/g01922/laws.FnExactRankShortest", spec := "fnExactRankShortest", unfollowed := true, recurses := true, plainKeys := false, apart := false, narrowed := true }
def FnExactRankShortestUptoSaid : Prop := fnExactRankShortestUptoRow.holds Try.pinned (OpenSpec.upto fnExactRankShortestSpec)

/-- 'laws.FnExactLeastWitness', WHERE WHAT IT READS IS OF BULK AT MOST 1048576: true; the input reads as it did. -/
def fnExactLeastWitnessUptoRow : OpenClaim := { program := "ytlhpcknpjdeebaa", sum := "1a0e20f7eb659b2fd4480d30685ea4106787adf18302146e569ab32a5b055f20", func := "loop.example/g01922/laws.FnExactLeastWitness", spec := "fnExactLeastWitness", recurses := true, plainKeys := false, apart := false, narrowed := true }
def FnExactLeastWitnessUptoSaid : Prop := fnExactLeastWitnessUptoRow.holds Try.pinned (OpenSpec.upto fnExactLeastWitnessSpec)

/-- 'laws.FnExactListShortest', WHERE WHAT IT READS IS OF BULK AT MOST 1048576: true; the input reads as it did. -/
def fnExactListShortestUptoRow : OpenClaim := { program := "ytlhpcknpjdeebaa", sum := "1a0e20f7eb659b2fd4480d30685ea4106787adf18302146e569ab32a5b055f20", func := "loop.example/g01922/laws.FnExactListShortest", spec := "fnExactListShortest", recurses := true, plainKeys := false, apart := false, narrowed := true }
def FnExactListShortestUptoSaid : Prop := fnExactListShortestUptoRow.holds Try.pinned (OpenSpec.upto fnExactListShortestSpec)

end Rows
end Go.Proofs.Ytlhpcknpjdeebaa
