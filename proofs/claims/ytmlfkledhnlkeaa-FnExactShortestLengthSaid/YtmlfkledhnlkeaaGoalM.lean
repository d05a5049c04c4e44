/- Plain: the vertices of a node that accept. -/
import Derived.Test.YtmlfkledhnlkeaaProdM
namespace Go.Proofs.Ytmlfkledhnlkeaa
set_option linter.unusedVariables false
set_option linter.unusedSimpArgs false
def goalsTo (g : Gr) (a : Au) (y i : Nat) : List Nat := ((List.range i).filter (accC a (valAt g y))).map fun s => y * a.accept.length + s
def goalsL (g : Gr) (a : Au) (y : Nat) : List Nat := goalsTo g a y a.accept.length
theorem goalsTo_yes {g : Gr} {a : Au} {y i : Nat} (h : accC a (valAt g y) i = true) : goalsTo g a y (i + 1) = goalsTo g a y i ++ [y * a.accept.length + i] := by
  unfold goalsTo
  rw [List.range_succ, List.filter_append, List.map_append]
  simp [h]
theorem goalsTo_no {g : Gr} {a : Au} {y i : Nat} (h : accC a (valAt g y) i = false) : goalsTo g a y (i + 1) = goalsTo g a y i := by
  unfold goalsTo
  rw [List.range_succ, List.filter_append, List.map_append]
  simp [h]
theorem goalsTo_len (g : Gr) (a : Au) (y i : Nat) : (goalsTo g a y i).length ≤ i := by
  unfold goalsTo
  rw [List.length_map]
  have := List.length_filter_le (accC a (valAt g y)) (List.range i)
  rw [List.length_range] at this
  exact this
theorem mem_goalsL {g : Gr} {a : Au} {y v : Nat} : v ∈ goalsL g a y ↔ ∃ s, s < a.accept.length ∧ accC a (valAt g y) s = true ∧ v = y * a.accept.length + s := by
  unfold goalsL goalsTo
  simp only [List.mem_map, List.mem_filter, List.mem_range]
  constructor
  · rintro ⟨s, ⟨h1, h2⟩, rfl⟩; exact ⟨s, h1, h2, rfl⟩
  · rintro ⟨s, h1, h2, rfl⟩; exact ⟨s, ⟨h1, h2⟩, rfl⟩
end Go.Proofs.Ytmlfkledhnlkeaa
