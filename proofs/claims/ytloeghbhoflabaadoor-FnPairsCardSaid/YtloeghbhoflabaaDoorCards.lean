/-
  DERIVED. GIVEN WITH THE SEED: THE CARDS: each row of YtloeghbhoflabaaDoorRows.lean that lists a variable, with what it lists TIED to the program's text (the seventh form; the later family's looks); each row that meets fmt, with fmt's text TOLD by the authors' own Lean function (tested against real Go, not proved from fmt's source: count such statements apart). THE CARD IS WHAT COUNTS. Prove the row's statement (the work); the ties are given (YtloeghbhoflabaaDoorTie.lean); close each card by the builder's one call (the guide's Derived/Test/ToyasCard.lean, 'card_holds'). Laid BY PROGRAM, IN A SANDBOX (cutbox-door.mjs). By AI agents, Wed Nov 11 2026. No macro, syntax, notation, axiom, sorry.
-/
import Derived.Test.YtloeghbhoflabaaDoorRows
import GoSem.ClaimSeven
namespace Go.Proofs.YtloeghbhoflabaaDoor
namespace Rows

/-- THE TIED CARD OF 'laws.FnPairs'. -/
def fnPairsCard : Claim7 := { stood := { row := fnPairsRow, standIns := [], harness := (true, "2ad29af34066e025f3114e6f37783f32767500d4d8a15ef48a459cf77fe02f17"), looks := false }, kinds := [], alts := [], laidByText := true, laidKinds := [.data, .data, .data, .data, .pinned], laidTests := true, laidLooks := .later }
def FnPairsCardSaid : Prop := Claim7.holds Tryd.pinned (.plain (OpenSpec.ofChange fnPairsSpec)) fnPairsCard

/-- THE SECOND FORM's CARD OF 'laws.FnPairs'. -/
def fnPairsUptoCard : Claim7 := { stood := { row := fnPairsUptoRow, standIns := [], harness := (true, "2ad29af34066e025f3114e6f37783f32767500d4d8a15ef48a459cf77fe02f17"), looks := false }, kinds := [], alts := [], laidByText := true, laidKinds := [.data, .data, .data, .data, .pinned], laidTests := true, laidLooks := .later }
def FnPairsUptoCardSaid : Prop := Claim7.holds Tryd.pinned (.plain (OpenSpec.upto fnPairsSpec)) fnPairsUptoCard
end Rows
end Go.Proofs.YtloeghbhoflabaaDoor
