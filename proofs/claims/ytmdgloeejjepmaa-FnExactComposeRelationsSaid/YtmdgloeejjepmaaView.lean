/- Valid graphs and automata in memory: their shape and their cells, ready for a walk. Nothing of the program. -/
import Derived.Test.YtmdgloeejjepmaaProdM
namespace Go.Proofs.Ytmdgloeejjepmaa
set_option linter.unusedVariables false
set_option linter.unusedSimpArgs false
open Go.ChangeShapes Go.WideShapes Go.ChangeAt Go.RowKit

theorem bcell {w w' : World} (hb : Below w.heap.size w w') {b o : Nat} {v : Value} (h : w.cell? ⟨b, o, none⟩ = some v) (hl : b < w.heap.size) : w'.cell? ⟨b, o, none⟩ = some v := (hb.cell (p := ⟨b, o, none⟩) hl).trans h

/-- slice value v, of n elements, at A with capacity c; element i (k cells E x) lies in a block below H -/
structure SlC {α : Type} (H : Nat) (w : World) (E : α → List Value) (k : Nat) (A : Option Addr) (xs : List α) : Prop where
  at_ : ∀ i x, xs[i]? = some x → ∃ b o, A = some ⟨b, o, none⟩ ∧ b < H ∧ ∀ j u, (E x)[j]? = some u → w.cell? ⟨b, o + i * k + j, none⟩ = some u
theorem SlE.form {α : Type} {w : World} {E : α → List Value} {k : Nat} {v : Value} {xs : List α} (h : SlE w E k v xs) :
    ∃ A c, v = .slice A xs.length c ∧ xs.length ≤ c ∧ c ≤ 9223372036854775807 ∧ SlC w.heap.size w E k A xs := by
  obtain ⟨A, c, rfl, h1, h2, h3⟩ := h
  exact ⟨A, c, rfl, h1, by simpa [maxLen] using h2, ⟨fun i x hx => by obtain ⟨b, o, e, _, g, h⟩ := h3 i x hx; exact ⟨b, o, e, g, h⟩⟩⟩
theorem SlC.keep {α : Type} {w w' : World} {E : α → List Value} {k : Nat} {A : Option Addr} {xs : List α} (h : SlC w.heap.size w E k A xs) (hb : Below w.heap.size w w') : SlC w'.heap.size w' E k A xs :=
  ⟨fun i x hx => by obtain ⟨b, o, e, g, h⟩ := h.at_ i x hx; exact ⟨b, o, e, Nat.lt_of_lt_of_le g hb.size, fun j u hu => (hb.cell (p := ⟨_, _, none⟩) g).trans (h j u hu)⟩⟩
/-- an int, a bool: one cell -/
theorem SlC.int {H : Nat} {w : World} {A : Option Addr} {xs : List Int} (h : SlC H w cI 1 A xs) {i : Nat} {x : Int} (hx : xs[i]? = some x) : ∃ b o, A = some ⟨b, o, none⟩ ∧ b < H ∧ w.cell? ⟨b, o + i, none⟩ = some (.int .i64 x) := by
  obtain ⟨b, o, e, g, h⟩ := h.at_ i x hx
  exact ⟨b, o, e, g, by simpa using h 0 _ rfl⟩
theorem SlC.bool {H : Nat} {w : World} {A : Option Addr} {xs : List Bool} (h : SlC H w cB 1 A xs) {i : Nat} {x : Bool} (hx : xs[i]? = some x) : ∃ b o, A = some ⟨b, o, none⟩ ∧ b < H ∧ w.cell? ⟨b, o + i, none⟩ = some (.bool x) := by
  obtain ⟨b, o, e, g, h⟩ := h.at_ i x hx
  exact ⟨b, o, e, g, by simpa using h 0 _ rfl⟩
theorem SlC.val {H : Nat} {w : World} {A : Option Addr} {xs : List Value} (h : SlC H w cV 1 A xs) {i : Nat} {x : Value} (hx : xs[i]? = some x) : ∃ b o, A = some ⟨b, o, none⟩ ∧ b < H ∧ w.cell? ⟨b, o + i, none⟩ = some x := by
  obtain ⟨b, o, e, g, h⟩ := h.at_ i x hx
  exact ⟨b, o, e, g, by simpa using h 0 _ rfl⟩
theorem SlC.ed {H : Nat} {w : World} {A : Option Addr} {xs : List Ed} (h : SlC H w cEd 4 A xs) {i : Nat} {e : Ed} (hx : xs[i]? = some e) :
    ∃ b o, A = some ⟨b, o, none⟩ ∧ b < H ∧ w.cell? ⟨b, o + i * 4, none⟩ = some (.int .i64 e.1) ∧ w.cell? ⟨b, o + i * 4 + 1, none⟩ = some (.int .i64 e.2.1) ∧ w.cell? ⟨b, o + i * 4 + 2, none⟩ = some (.int .i64 e.2.2.1) ∧ w.cell? ⟨b, o + i * 4 + 3, none⟩ = some (.int .i64 e.2.2.2) := by
  obtain ⟨b, o, e, g, h⟩ := h.at_ i e hx
  exact ⟨b, o, e, g, by simpa using h 0 _ rfl, h 1 _ rfl, h 2 _ rfl, h 3 _ rfl⟩
theorem SlC.st {H : Nat} {w : World} {A : Option Addr} {xs : List St} (h : SlC H w cSt 2 A xs) {i : Nat} {e : St} (hx : xs[i]? = some e) :
    ∃ b o, A = some ⟨b, o, none⟩ ∧ b < H ∧ w.cell? ⟨b, o + i * 2, none⟩ = some (.int .i64 e.1) ∧ w.cell? ⟨b, o + i * 2 + 1, none⟩ = some (.bool e.2) := by
  obtain ⟨b, o, e, g, h⟩ := h.at_ i e hx
  exact ⟨b, o, e, g, by simpa using h 0 _ rfl, h 1 _ rfl⟩

/-- a valid automaton: the rows lie at A2, each of nine cells -/
structure AuC (w : World) (A1 A2 : Option Addr) (a : Au) : Prop where
  acc : SlC w.heap.size w cB 1 A1 a.accept
  row : ∀ i, i < a.accept.length → ∃ b o b3 o3 c3, A2 = some ⟨b, o, none⟩ ∧ b < w.heap.size ∧ w.cell? ⟨b, o + i, none⟩ = some (.slice (some ⟨b3, o3, none⟩) 9 c3) ∧ 9 ≤ c3 ∧ c3 ≤ 9223372036854775807 ∧ b3 < w.heap.size ∧ ∀ l, l < 9 → w.cell? ⟨b3, o3 + l, none⟩ = some (.int .i64 (mv a i l))
theorem AuV.form {w : World} {v : Value} {a : Au} (h : AuV 0 w.heap.size w v a) (hok : auOk a = true) :
    ∃ A1 c1 A2 c2, v = .agg #[.int .i64 a.start, .slice A1 a.accept.length c1, .slice A2 a.accept.length c2] ∧ a.accept.length ≤ c1 ∧ c1 ≤ 9223372036854775807 ∧ a.accept.length ≤ c2 ∧ c2 ≤ 9223372036854775807 ∧ AuC w A1 A2 a := by
  obtain ⟨⟨-, -⟩, -, hnl, hrk⟩ := auOk_iff.1 hok
  obtain ⟨ac, nx, rfl, h1, us, h2, hul, hrows⟩ := h
  obtain ⟨A1, c1, rfl, h3, h4, h5⟩ := SlE.form h1
  obtain ⟨A2, c2, rfl, h6, h7, h8⟩ := SlE.form h2
  rw [hul, hnl] at h6 ⊢
  refine ⟨A1, c1, A2, c2, rfl, h3, h4, h6, h7, h5, fun i hi => ?_⟩
  have hin : i < a.next.length := by omega
  have hiu : i < us.length := by omega
  have hxi : a.next[i]? = some a.next[i] := List.getElem?_eq_getElem hin
  obtain ⟨b, o, rfl, hb, hc⟩ := h8.val (List.getElem?_eq_getElem hiu)
  have hrl := (rowOk_iff.1 (hrk _ (List.getElem_mem hin))).2
  obtain ⟨A3, c3, hv3, h9, h10, h11⟩ := SlE.form (hrows i us[i] _ (List.getElem?_eq_getElem hiu) hxi)
  rw [hrl] at hv3 h9
  obtain ⟨b3, o3, rfl, hb3, -⟩ := h11.int (i := 0) (List.getElem?_eq_getElem (by omega))
  refine ⟨b, o, b3, o3, c3, rfl, hb, by rw [hc, hv3], h9, h10, hb3, fun l hl => ?_⟩
  have hti : a.next[i][l]? = some a.next[i][l] := List.getElem?_eq_getElem (by omega)
  obtain ⟨b4, o4, he, hb4, hc4⟩ := h11.int hti
  simp only [Option.some.injEq, Addr.mk.injEq, and_true] at he
  obtain ⟨rfl, rfl⟩ := he
  rw [hc4, mv_of hxi hti]
theorem AuC.keep {w w' : World} {A1 A2 : Option Addr} {a : Au} (h : AuC w A1 A2 a) (hb : Below w.heap.size w w') : AuC w' A1 A2 a := by
  refine ⟨h.acc.keep hb, fun i hi => ?_⟩
  obtain ⟨b, o, b3, o3, c3, e, h1, h2, h3, h4, h5, h6⟩ := h.row i hi
  exact ⟨b, o, b3, o3, c3, e, Nat.lt_of_lt_of_le h1 hb.size, (hb.cell (p := ⟨_, _, none⟩) h1).trans h2, h3, h4, Nat.lt_of_lt_of_le h5 hb.size, fun l hl => (hb.cell (p := ⟨_, _, none⟩) h5).trans (h6 l hl)⟩
/-- a graph: values at A1, edges at A2 -/
theorem GrV.form {w : World} {v : Value} {g : Gr} (h : GrV 0 w.heap.size w v g) :
    ∃ A1 c1 A2 c2, v = .agg #[.slice A1 g.vals.length c1, .slice A2 g.edges.length c2] ∧ g.vals.length ≤ c1 ∧ c1 ≤ 9223372036854775807 ∧ g.edges.length ≤ c2 ∧ c2 ≤ 9223372036854775807 ∧ SlC w.heap.size w cI 1 A1 g.vals ∧ SlC w.heap.size w cEd 4 A2 g.edges := by
  obtain ⟨vs, es, rfl, h1, h2⟩ := h
  obtain ⟨A1, c1, rfl, h3, h4, h5⟩ := SlE.form h1
  obtain ⟨A2, c2, rfl, h6, h7, h8⟩ := SlE.form h2
  exact ⟨A1, c1, A2, c2, rfl, h3, h4, h6, h7, h5, h8⟩
theorem WkV.form {w : World} {v : Value} {k : Wk} (h : WkV 0 w.heap.size w v k) :
    ∃ A1 c1, v = .agg #[.int .i64 k.1, .slice A1 k.2.length c1] ∧ k.2.length ≤ c1 ∧ c1 ≤ 9223372036854775807 ∧ SlC w.heap.size w cSt 2 A1 k.2 := by
  obtain ⟨ss, rfl, h1⟩ := h
  obtain ⟨A1, c1, rfl, h3, h4, h5⟩ := SlE.form h1
  exact ⟨A1, c1, rfl, h3, h4, h5⟩
end Go.Proofs.Ytmdgloeejjepmaa
