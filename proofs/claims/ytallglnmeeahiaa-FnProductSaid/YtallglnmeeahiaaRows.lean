/-
  No cell of these rows narrows 'for every input' (looked for: loops, veiled, ifaces, maps, wideKeys, modest, calm, conditions, laid).
  DERIVED. THE GIVEN ROWS OF THIS SEAT. 3 by the template 'for every input the law returns true; each argument reads behind the call as it read before'; 0 by the template 'total and deterministic' (their statements: YtallglnmeeahiaaTotals.lean).
  GIVEN WITH THE SEED: the statements are not yours to turn. If you find one false, say at which input.
  Laid BY PROGRAM, IN A SANDBOX (cutbox-rows.mjs): the forced cells as the released guide's own fill.sh prints them over the translation d99b87f07b793e90… (all of the seat's roots in one cut). By AI agents, Wed Nov 11 2026. No macro, syntax, notation, axiom, sorry.
-/
import Derived.Test.YtallglnmeeahiaaChecked
import GoSem.Claim
import GoSem.ClaimJoined
import GoSem.ClaimMapViews
import Derived.JoinedTies
import Derived.KernelRfl
namespace Go.Proofs.Ytallglnmeeahiaa
/- THE CELL 'sum', in the pinned program and in every row, IS THE sha256 OF THE DUMP (.gsa) THAT YtallglnmeeahiaaProg.lean LOADS. Nothing in Lean hashes anything: it is a label: what it is worth is what the hold of that sum in a sandbox is worth. -/
noncomputable def Try.pinned : Pinned := { name := "ytallglnmeeahiaa", sum := "d99b87f07b793e9015a9e1da6d14f6d67d86a937876c613d18171dd6eda60bc8", checked := Try.checked }
namespace Rows
def none {H : Type} : Left H := { results := [], args := [] }

/-- 'laws.FnPumping': WHATEVER THE INPUT: true; the input reads as it did. -/
def fnPumpingSpec : ChangeSpec := { name := "fnPumping", fn := fun _ => fun
  | [d] => { results := [.lit (.bool true)], args := [d] }
  | _ => none }
def fnPumpingRow : OpenClaim := { program := "ytallglnmeeahiaa", sum := "d99b87f07b793e9015a9e1da6d14f6d67d86a937876c613d18171dd6eda60bc8", func := "loop.example/g01922/laws.FnPumping", spec := "fnPumping", unfollowed := true, recurses := true, plainKeys := false, apart := false }
def FnPumpingSaid : Prop := fnPumpingRow.holds Try.pinned (OpenSpec.ofChange fnPumpingSpec)

/-- ITS FALSE NEIGHBOUR: 'it returns false'. Refute it at one input. -/
def fnPumpingWrong : ChangeSpec := { name := "fnPumping", fn := fun _ => fun
  | [d] => { results := [.lit (.bool false)], args := [d] }
  | _ => none }
def FnPumpingWrongFalsely : Prop := fnPumpingRow.holds Try.pinned (OpenSpec.ofChange fnPumpingWrong)

/-- 'laws.FnCutCycles': WHATEVER THE INPUT: true; the input reads as it did. -/
def fnCutCyclesSpec : ChangeSpec := { name := "fnCutCycles", fn := fun _ => fun
  | [d] => { results := [.lit (.bool true)], args := [d] }
  | _ => none }
def fnCutCyclesRow : OpenClaim := { program := "ytallglnmeeahiaa", sum := "d99b87f07b793e9015a9e1da6d14f6d67d86a937876c613d18171dd6eda60bc8", func := "loop.example/g01922/laws.FnCutCycles", spec := "fnCutCycles", unfollowed := true, recurses := true, plainKeys := false, apart := false }
def FnCutCyclesSaid : Prop := fnCutCyclesRow.holds Try.pinned (OpenSpec.ofChange fnCutCyclesSpec)

/-- ITS FALSE NEIGHBOUR: 'it returns false'. Refute it at one input. -/
def fnCutCyclesWrong : ChangeSpec := { name := "fnCutCycles", fn := fun _ => fun
  | [d] => { results := [.lit (.bool false)], args := [d] }
  | _ => none }
def FnCutCyclesWrongFalsely : Prop := fnCutCyclesRow.holds Try.pinned (OpenSpec.ofChange fnCutCyclesWrong)

/-- 'laws.FnProduct': WHATEVER THE INPUT: true; the input reads as it did. -/
def fnProductSpec : ChangeSpec := { name := "fnProduct", fn := fun _ => fun
  | [d] => { results := [.lit (.bool true)], args := [d] }
  | _ => none }
def fnProductRow : OpenClaim := { program := "ytallglnmeeahiaa", sum := "d99b87f07b793e9015a9e1da6d14f6d67d86a937876c613d18171dd6eda60bc8", func := "loop.example/g01922/laws.FnProduct", spec := "fnProduct", unfollowed := true, recurses := true, plainKeys := false, apart := false }
def FnProductSaid : Prop := fnProductRow.holds Try.pinned (OpenSpec.ofChange fnProductSpec)

/-- ITS FALSE NEIGHBOUR: 'it returns false'. Refute it at one input. -/
def fnProductWrong : ChangeSpec := { name := "fnProduct", fn := fun _ => fun
  | [d] => { results := [.lit (.bool false)], args := [d] }
  | _ => none }
def FnProductWrongFalsely : Prop := fnProductRow.holds Try.pinned (OpenSpec.ofChange fnProductWrong)

/- THE SECOND FORM. 'bulk': how many values and letters a reading holds, each counted each time it is reached (what is shared counts as often as it is met; a slice's spare places count too). A statement '..UptoSaid' is the law's where the arguments, and the package variables that the reading takes, are together of bulk at most 1048576: NARROWER than '..Said'. Prove '..Said' where nothing that the law and all that it calls make is longer than what came in: it says more and counts as full. Else prove '..UptoSaid'. A law counts once. -/
mutual
def uptoBulk {H : Type} : DataW H → Nat
  | .lit (.string bytes) => bytes.length + 1
  | .lit _ => 1
  | .nil => 1
  | .ptr d => uptoBulk d + 1
  | .slice elems spare => uptoBulkAll elems + uptoBulkAll spare + 1
  | .agg parts => uptoBulkAll parts + 1
  | .iface _ d => uptoBulk d + 1
  | .map entries => uptoBulkEntries entries + 1
  | .held _ => 1
def uptoBulkAll {H : Type} : List (DataW H) → Nat
  | [] => 0
  | d :: r => uptoBulk d + uptoBulkAll r
def uptoBulkEntries {H : Type} : List (Lit × DataW H) → Nat
  | [] => 0
  | x :: r => uptoBulkEntry x + uptoBulkEntries r
def uptoBulkEntry {H : Type} : Lit × DataW H → Nat
  | (.string bytes, d) => bytes.length + uptoBulk d + 1
  | (_, d) => uptoBulk d + 1
 end
def uptoSmall : (H : Type) → List (DataW H) → Bool := fun _ ds => decide (uptoBulkAll ds ≤ 1048576)
def OpenSpec.upto (s : _root_.Go.ChangeSpec) : _root_.Go.OpenSpec := { _root_.Go.OpenSpec.ofChange s with cond := some uptoSmall }

/-- 'laws.FnPumping', WHERE WHAT IT READS IS OF BULK AT MOST 1048576: true; the input reads as it did. -/
def fnPumpingUptoRow : OpenClaim := { program := "ytallglnmeeahiaa", sum := "d99b87f07b793e9015a9e1da6d14f6d67d86a937876c613d18171dd6eda60bc8", func := "loop.example/g01922/laws.FnPumping", spec := "fnPumping", unfollowed := true, recurses := true, plainKeys := false, apart := false, narrowed := true }
def FnPumpingUptoSaid : Prop := fnPumpingUptoRow.holds Try.pinned (OpenSpec.upto fnPumpingSpec)

/-- 'laws.FnCutCycles', WHERE WHAT IT READS IS OF BULK AT MOST 1048576: true; the input reads as it did. -/
def fnCutCyclesUptoRow : OpenClaim := { program := "ytallglnmeeahiaa", sum := "d99b87f07b793e9015a9e1da6d14f6d67d86a937876c613d18171dd6eda60bc8", func := "loop.example/g01922/laws.FnCutCycles", spec := "fnCutCycles", unfollowed := true, recurses := true, plainKeys := false, apart := false, narrowed := true }
def FnCutCyclesUptoSaid : Prop := fnCutCyclesUptoRow.holds Try.pinned (OpenSpec.upto fnCutCyclesSpec)

/-- 'laws.FnProduct', WHERE WHAT IT READS IS OF BULK AT MOST 1048576: true; the input reads as it did. -/
def fnProductUptoRow : OpenClaim := { program := "ytallglnmeeahiaa", sum := "d99b87f07b793e9015a9e1da6d14f6d67d86a937876c613d18171dd6eda60bc8", func := "loop.example/g01922/laws.FnProduct", spec := "fnProduct", unfollowed := true, recurses := true, plainKeys := false, apart := false, narrowed := true }
def FnProductUptoSaid : Prop := fnProductUptoRow.holds Try.pinned (OpenSpec.upto fnProductSpec)

end Rows
end Go.Proofs.Ytallglnmeeahiaa
