/-
  No cell of these rows narrows 'for every input' (looked for: loops, veiled, ifaces, maps, wideKeys, modest, calm, conditions, laid).
  DERIVED. THE GIVEN ROWS OF THIS SEAT. 3 by the template 'for every input the law returns true; each argument reads behind the call as it read before'; 0 by the template 'total and deterministic' (their statements: YthnapjodmndlaaaTotals.lean).
  GIVEN WITH THE SEED: the statements are not yours to turn. If you find one false, say at which input.
  Laid BY PROGRAM, IN A SANDBOX (cutbox-rows.mjs): the forced cells as the released guide's own fill.sh prints them over the translation c1cf9d6f1b5ac795… (all of the seat's roots in one cut). By AI agents, Wed Nov 11 2026. No macro, syntax, notation, axiom, sorry.
-/
import Derived.Test.YthnapjodmndlaaaChecked
import GoSem.Claim
import GoSem.ClaimJoined
import GoSem.ClaimMapViews
import Derived.JoinedTies
import Derived.KernelRfl
namespace Go.Proofs.Ythnapjodmndlaaa
/- THE CELL 'sum', in the pinned program and in every row, IS THE sha256 OF THE DUMP (.gsa) THAT YthnapjodmndlaaaProg.lean LOADS. Nothing in Lean hashes anything: it is a label: what it is worth is what the hold of that sum in a sandbox is worth. -/
noncomputable def Try.pinned : Pinned := { name := "ythnapjodmndlaaa", sum := "c1cf9d6f1b5ac795d940610b24933a6b83777c2da839ad0c10860154e01e3364", checked := Try.checked }
namespace Rows
def none {H : Type} : Left H := { results := [], args := [] }

/-- 'laws.FnExactIsUnambiguous': WHATEVER THE INPUT: true; the input reads as it did. -/
def fnExactIsUnambiguousSpec : ChangeSpec := { name := "fnExactIsUnambiguous", fn := fun _ => fun
  | [d] => { results := [.lit (.bool true)], args := [d] }
  | _ => none }
def fnExactIsUnambiguousRow : OpenClaim := { program := "ythnapjodmndlaaa", sum := "c1cf9d6f1b5ac795d940610b24933a6b83777c2da839ad0c10860154e01e3364", func := "loop.example/g01922/laws.FnExactIsUnambiguous", spec := "fnExactIsUnambiguous", unfollowed := true, recurses := true, plainKeys := false, apart := false }
def FnExactIsUnambiguousSaid : Prop := fnExactIsUnambiguousRow.holds Try.pinned (OpenSpec.ofChange fnExactIsUnambiguousSpec)

/-- ITS FALSE NEIGHBOUR: 'it returns false'. Refute it at one input. -/
def fnExactIsUnambiguousWrong : ChangeSpec := { name := "fnExactIsUnambiguous", fn := fun _ => fun
  | [d] => { results := [.lit (.bool false)], args := [d] }
  | _ => none }
def FnExactIsUnambiguousWrongFalsely : Prop := fnExactIsUnambiguousRow.holds Try.pinned (OpenSpec.ofChange fnExactIsUnambiguousWrong)

/-- 'laws.FnExactAmbiguousWord': WHATEVER THE INPUT: true; the input reads as it did. -/
def fnExactAmbiguousWordSpec : ChangeSpec := { name := "fnExactAmbiguousWord", fn := fun _ => fun
  | [d] => { results := [.lit (.bool true)], args := [d] }
  | _ => none }
def fnExactAmbiguousWordRow : OpenClaim := { program := "ythnapjodmndlaaa", sum := "c1cf9d6f1b5ac795d940610b24933a6b83777c2da839ad0c10860154e01e3364", func := "loop.example/g01922/laws.FnExactAmbiguousWord", spec := "fnExactAmbiguousWord", unfollowed := true, recurses := true, plainKeys := false, apart := false }
def FnExactAmbiguousWordSaid : Prop := fnExactAmbiguousWordRow.holds Try.pinned (OpenSpec.ofChange fnExactAmbiguousWordSpec)

/-- ITS FALSE NEIGHBOUR: 'it returns false'. Refute it at one input. -/
def fnExactAmbiguousWordWrong : ChangeSpec := { name := "fnExactAmbiguousWord", fn := fun _ => fun
  | [d] => { results := [.lit (.bool false)], args := [d] }
  | _ => none }
def FnExactAmbiguousWordWrongFalsely : Prop := fnExactAmbiguousWordRow.holds Try.pinned (OpenSpec.ofChange fnExactAmbiguousWordWrong)

/-- 'laws.FnAmbiguity': WHATEVER THE INPUT: true; the input reads as it did. -/
def fnAmbiguitySpec : ChangeSpec := { name := "fnAmbiguity", fn := fun _ => fun
  | [d] => { results := [.lit (.bool true)], args := [d] }
  | _ => none }
def fnAmbiguityRow : OpenClaim := { program := "ythnapjodmndlaaa", sum := "c1cf9d6f1b5ac795d940610b24933a6b83777c2da839ad0c10860154e01e3364", func := "loop.example/g01922/laws.FnAmbiguity", spec := "fnAmbiguity", unfollowed := true, recurses := true, plainKeys := false, apart := false }
def FnAmbiguitySaid : Prop := fnAmbiguityRow.holds Try.pinned (OpenSpec.ofChange fnAmbiguitySpec)

/-- ITS FALSE NEIGHBOUR: 'it returns false'. Refute it at one input. -/
def fnAmbiguityWrong : ChangeSpec := { name := "fnAmbiguity", fn := fun _ => fun
  | [d] => { results := [.lit (.bool false)], args := [d] }
  | _ => none }
def FnAmbiguityWrongFalsely : Prop := fnAmbiguityRow.holds Try.pinned (OpenSpec.ofChange fnAmbiguityWrong)

/- THE SECOND FORM. 'bulk': how many values and letters a reading holds, each counted each time it is reached (what is shared counts as often as it is met; a slice's spare places count too). A statement '..UptoSaid' is the law's where the arguments, and the package variables that the reading takes, are together of bulk at most 1048576: NARROWER than '..Said'. Prove '..Said' where nothing that the law and all that it calls make is longer than what came in: it says more and counts as full. Else prove '..UptoSaid'. A law counts once. -/
mutual
def uptoBulk {H : Type} : DataW H → Nat
  | .lit (.string bytes) => bytes.length + 1
  | .lit _ => 1
  | .nil => 1
  | .ptr d => uptoBulk d + 1
  | .slice elems spare => uptoBulkAll elems + uptoBulkAll spare + 1
  | .agg parts => uptoBulkAll parts + 1
  | .iface _ d => uptoBulk d + 1
  | .map entries => uptoBulkEntries entries + 1
  | .held _ => 1
def uptoBulkAll {H : Type} : List (DataW H) → Nat
  | [] => 0
  | d :: r => uptoBulk d + uptoBulkAll r
def uptoBulkEntries {H : Type} : List (Lit × DataW H) → Nat
  | [] => 0
  | x :: r => uptoBulkEntry x + uptoBulkEntries r
def uptoBulkEntry {H : Type} : Lit × DataW H → Nat
  | (.string bytes, d) => bytes.length + uptoBulk d + 1
  | (_, d) => uptoBulk d + 1
 end
def uptoSmall : (H : Type) → List (DataW H) → Bool := fun _ ds => decide (uptoBulkAll ds ≤ 1048576)
def OpenSpec.upto (s : _root_.Go.ChangeSpec) : _root_.Go.OpenSpec := { _root_.Go.OpenSpec.ofChange s with cond := some uptoSmall }

/-- 'laws.FnExactIsUnambiguous', WHERE WHAT IT READS IS OF BULK AT MOST 1048576: true; the input reads as it did. -/
def fnExactIsUnambiguousUptoRow : OpenClaim := { program := "ythnapjodmndlaaa", sum := "c1cf9d6f1b5ac795d940610b24933a6b83777c2da839ad0c10860154e01e3364", func := "loop.example/g01922/laws.FnExactIsUnambiguous", spec := "fnExactIsUnambiguous", unfollowed := true, recurses := true, plainKeys := false, apart := false, narrowed := true }
def FnExactIsUnambiguousUptoSaid : Prop := fnExactIsUnambiguousUptoRow.holds Try.pinned (OpenSpec.upto fnExactIsUnambiguousSpec)

/-- 'laws.FnExactAmbiguousWord', WHERE WHAT IT READS IS OF BULK AT MOST 1048576: true; the input reads as it did. -/
def fnExactAmbiguousWordUptoRow : OpenClaim := { program := "ythnapjodmndlaaa", sum := "c1cf9d6f1b5ac795d940610b24933a6b83777c2da839ad0c10860154e01e3364", func := "loop.example/g01922/laws.FnExactAmbiguousWord", spec := "fnExactAmbiguousWord", unfollowed := true, recurses := true, plainKeys := false, apart := false, narrowed := true }
def FnExactAmbiguousWordUptoSaid : Prop := fnExactAmbiguousWordUptoRow.holds Try.pinned (OpenSpec.upto fnExactAmbiguousWordSpec)

/-- 'laws.FnAmbiguity', WHERE WHAT IT READS IS OF BULK AT MOST 1048576: true; the input reads as it did. -/
def fnAmbiguityUptoRow : OpenClaim := { program := "ythnapjodmndlaaa", sum := "c1cf9d6f1b5ac795d940610b24933a6b83777c2da839ad0c10860154e01e3364", func := "loop.example/g01922/laws.FnAmbiguity", spec := "fnAmbiguity", unfollowed := true, recurses := true, plainKeys := false, apart := false, narrowed := true }
def FnAmbiguityUptoSaid : Prop := fnAmbiguityUptoRow.holds Try.pinned (OpenSpec.upto fnAmbiguitySpec)

end Rows
end Go.Proofs.Ythnapjodmndlaaa
