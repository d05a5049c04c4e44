/- Plain functions on plain data: nothing of the program. -/
import Derived.Test.YtbhmgpclakkgbaaBase
namespace Go.Proofs.Ytbhmgpclakkgbaa
set_option linter.unusedVariables false
set_option linter.unusedSimpArgs false

/-- n is in the range a to b -/
def wi (n a b : Int) : Bool := decide (a ≤ n) && decide (n ≤ b)
theorem wi_iff {n a b : Int} : wi n a b = true ↔ a ≤ n ∧ n ≤ b := by simp [wi]
theorem wi_false {n a b : Int} : wi n a b = false ↔ ¬ (a ≤ n ∧ n ≤ b) := by rw [← wi_iff]; simp

/-! ### Automata -/
def rowOk (n : Int) (row : List Int) : Bool := row.all (fun t => wi t (-1) (n - 1)) && (row.length == 9)
def auOk (a : Au) : Bool := wi a.accept.length 1 12 && wi a.start 0 ((a.accept.length : Int) - 1) && (a.next.length == a.accept.length) && a.next.all (rowOk a.accept.length)
theorem auOk_iff {a : Au} : auOk a = true ↔ (1 ≤ a.accept.length ∧ a.accept.length ≤ 12) ∧ (0 ≤ a.start ∧ a.start ≤ (a.accept.length : Int) - 1) ∧ a.next.length = a.accept.length ∧ ∀ row ∈ a.next, rowOk a.accept.length row = true := by
  simp only [auOk, Bool.and_eq_true, wi_iff, beq_iff_eq, List.all_eq_true]
  constructor
  · rintro ⟨⟨⟨h1, h2⟩, h3⟩, h4⟩
    exact ⟨by omega, h2, h3, h4⟩
  · rintro ⟨h1, h2, h3, h4⟩
    exact ⟨⟨⟨by omega, h2⟩, h3⟩, h4⟩
theorem rowOk_iff {n : Int} {row : List Int} : rowOk n row = true ↔ (∀ t ∈ row, -1 ≤ t ∧ t ≤ n - 1) ∧ row.length = 9 := by
  simp only [rowOk, Bool.and_eq_true, List.all_eq_true, wi_iff, beq_iff_eq]

theorem all_take_succ {α : Type} {p : α → Bool} {xs : List α} {i : Nat} {x : α} (hx : xs[i]? = some x) (h : (xs.take i).all p = true) (hp : p x = true) : (xs.take (i + 1)).all p = true := by
  rw [take_snoc hx, List.all_append, h]
  simp [hp]
theorem all_false_of {α : Type} {p : α → Bool} {xs : List α} {i : Nat} {x : α} (hx : xs[i]? = some x) (hp : p x = false) : xs.all p = false := by
  rw [List.all_eq_false]
  exact ⟨x, List.mem_of_getElem? hx, by simp [hp]⟩
end Go.Proofs.Ytbhmgpclakkgbaa
