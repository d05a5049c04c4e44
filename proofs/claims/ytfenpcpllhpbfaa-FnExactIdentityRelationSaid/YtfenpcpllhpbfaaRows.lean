/-
  No cell of these rows narrows 'for every input' (looked for: loops, veiled, ifaces, maps, wideKeys, modest, calm, conditions, laid).
  DERIVED. THE GIVEN ROWS OF THIS SEAT. 2 by the template 'for every input the law returns true; each argument reads behind the call as it read before'; 0 by the template 'total and deterministic' (their statements: YtfenpcpllhpbfaaTotals.lean).
  GIVEN WITH THE SEED: the statements are not yours to turn. If you find one false, say at which input.
  Laid BY PROGRAM, IN A SANDBOX (cutbox-rows.mjs): the forced cells as the released guide's own fill.sh prints them over the translation 22df1af054a81a0f… (all of the seat's roots in one cut). By AI agents, Wed Nov 11 2026. No macro, syntax, notation, axiom, sorry.
-/
import Derived.Test.YtfenpcpllhpbfaaChecked
import GoSem.Claim
import GoSem.ClaimJoined
import GoSem.ClaimMapViews
import Derived.JoinedTies
import Derived.KernelRfl
namespace Go.Proofs.Ytfenpcpllhpbfaa
/- THE CELL 'sum', in the pinned program and in every row, IS THE sha256 OF THE DUMP (.gsa) THAT YtfenpcpllhpbfaaProg.lean LOADS. Nothing in Lean hashes anything: it is a label: what it is worth is what the hold of that sum in a sandbox is worth. -/
noncomputable def Try.pinned : Pinned := { name := "ytfenpcpllhpbfaa", sum := "22df1af054a81a0f862d539cd420761f0b0a4baced645608f04b0f7c5238ca2e", checked := Try.checked }
namespace Rows
def none {H : Type} : Left H := { results := [], args := [] }

/-- 'laws.FnExactConditionHolds': WHATEVER THE INPUT: true; the input reads as it did. -/
def fnExactConditionHoldsSpec : ChangeSpec := { name := "fnExactConditionHolds", fn := fun _ => fun
  | [d1, d2, d3] => { results := [.lit (.bool true)], args := [d1, d2, d3] }
  | _ => none }
def fnExactConditionHoldsRow : OpenClaim := { program := "ytfenpcpllhpbfaa", sum := "22df1af054a81a0f862d539cd420761f0b0a4baced645608f04b0f7c5238ca2e", func := "loop.example/g01922/laws.FnExactConditionHolds", spec := "fnExactConditionHolds", apart := false }
def FnExactConditionHoldsSaid : Prop := fnExactConditionHoldsRow.holds Try.pinned (OpenSpec.ofChange fnExactConditionHoldsSpec)

/-- ITS FALSE NEIGHBOUR: 'it returns false'. Refute it at one input. -/
def fnExactConditionHoldsWrong : ChangeSpec := { name := "fnExactConditionHolds", fn := fun _ => fun
  | [d1, d2, d3] => { results := [.lit (.bool false)], args := [d1, d2, d3] }
  | _ => none }
def FnExactConditionHoldsWrongFalsely : Prop := fnExactConditionHoldsRow.holds Try.pinned (OpenSpec.ofChange fnExactConditionHoldsWrong)

/-- 'laws.FnExactIdentityRelation': WHATEVER THE INPUT: true; the input reads as it did. -/
def fnExactIdentityRelationSpec : ChangeSpec := { name := "fnExactIdentityRelation", fn := fun _ => fun
  | [d] => { results := [.lit (.bool true)], args := [d] }
  | _ => none }
def fnExactIdentityRelationRow : OpenClaim := { program := "ytfenpcpllhpbfaa", sum := "22df1af054a81a0f862d539cd420761f0b0a4baced645608f04b0f7c5238ca2e", func := "loop.example/g01922/laws.FnExactIdentityRelation", spec := "fnExactIdentityRelation", apart := false }
def FnExactIdentityRelationSaid : Prop := fnExactIdentityRelationRow.holds Try.pinned (OpenSpec.ofChange fnExactIdentityRelationSpec)

/-- ITS FALSE NEIGHBOUR: 'it returns false'. Refute it at one input. -/
def fnExactIdentityRelationWrong : ChangeSpec := { name := "fnExactIdentityRelation", fn := fun _ => fun
  | [d] => { results := [.lit (.bool false)], args := [d] }
  | _ => none }
def FnExactIdentityRelationWrongFalsely : Prop := fnExactIdentityRelationRow.holds Try.pinned (OpenSpec.ofChange fnExactIdentityRelationWrong)

/- THE SECOND FORM. 'bulk': how many values and letters a reading holds, each counted each time it is reached (what is shared counts as often as it is met; a slice's spare places count too). A statement '..UptoSaid' is the law's where the arguments, and the package variables that the reading takes, are together of bulk at most 1048576: NARROWER than '..Said'. Prove '..Said' where nothing that the law and all that it calls make is longer than what came in: it says more and counts as full. Else prove '..UptoSaid'. A law counts once. -/
mutual
def uptoBulk {H : Type} : DataW H → Nat
  | .lit (.string bytes) => bytes.length + 1
  | .lit _ => 1
  | .nil => 1
  | .ptr d => uptoBulk d + 1
  | .slice elems spare => uptoBulkAll elems + uptoBulkAll spare + 1
  | .agg parts => uptoBulkAll parts + 1
  | .iface _ d => uptoBulk d + 1
  | .map entries => uptoBulkEntries entries + 1
  | .held _ => 1
def uptoBulkAll {H : Type} : List (DataW H) → Nat
  | [] => 0
  | d :: r => uptoBulk d + uptoBulkAll r
def uptoBulkEntries {H : Type} : List (Lit × DataW H) → Nat
  | [] => 0
  | x :: r => uptoBulkEntry x + uptoBulkEntries r
def uptoBulkEntry {H : Type} : Lit × DataW H → Nat
  | (.string bytes, d) => bytes.length + uptoBulk d + 1
  | (_, d) => uptoBulk d + 1
 end
def uptoSmall : (H : Type) → List (DataW H) → Bool := fun _ ds => decide (uptoBulkAll ds ≤ 1048576)
def OpenSpec.upto (s : _root_.Go.ChangeSpec) : _root_.Go.OpenSpec := { _root_.Go.OpenSpec.ofChange s with cond := some uptoSmall }

/-- 'laws.FnExactConditionHolds', WHERE WHAT IT READS IS OF BULK AT MOST 1048576: true; the input reads as it did. -/
def fnExactConditionHoldsUptoRow : OpenClaim := { program := "ytfenpcpllhpbfaa", sum := "22df1af054a81a0f862d539cd420761f0b0a4baced645608f04b0f7c5238ca2e", func := "loop.example/g01922/laws.FnExactConditionHolds", spec := "fnExactConditionHolds", apart := false, narrowed := true }
def FnExactConditionHoldsUptoSaid : Prop := fnExactConditionHoldsUptoRow.holds Try.pinned (OpenSpec.upto fnExactConditionHoldsSpec)

/-- 'laws.FnExactIdentityRelation', WHERE WHAT IT READS IS OF BULK AT MOST 1048576: true; the input reads as it did. -/
def fnExactIdentityRelationUptoRow : OpenClaim := { program := "ytfenpcpllhpbfaa", sum := "22df1af054a81a0f862d539cd420761f0b0a4baced645608f04b0f7c5238ca2e", func := "loop.example/g01922/laws.FnExactIdentityRelation", spec := "fnExactIdentityRelation", apart := false, narrowed := true }
def FnExactIdentityRelationUptoSaid : Prop := fnExactIdentityRelationUptoRow.holds Try.pinned (OpenSpec.upto fnExactIdentityRelationSpec)

end Rows
end Go.Proofs.Ytfenpcpllhpbfaa
