/- Parts of the proof, joined into one text: Hold, Grow, Tail, HelpInt, HelpEdge. -/
import Derived.Test.YtmlfkledhnlkeaaPartPLILMNPP
import Derived.StillTail
/- What a drawn region with calls that make memory keeps: a bound on the heap, and the cells named. -/
namespace Go.Proofs.Ytmlfkledhnlkeaa
set_option linter.unusedVariables false
set_option linter.unusedSimpArgs false
open Go.ChangeShapes Go.WideShapes Go.ChangeAt Go.RowKit

theorem hold1 {w w' w'' : World} {B : Nat} {p0 : Addr} {v0 : Value} (h0 : p0.block < B) (hB : Below w'.heap.size w' w'') (h : Below w.heap.size w w' ∧ B ≤ w'.heap.size ∧ w'.cell? p0 = some v0) : Below w.heap.size w w'' ∧ B ≤ w''.heap.size ∧ w''.cell? p0 = some v0 := by
  obtain ⟨hb, hs, c0⟩ := h
  exact ⟨below_trans hb hB, Nat.le_trans hs hB.size, (hB.cell (Nat.lt_of_lt_of_le h0 hs)).trans c0⟩
theorem hold2 {w w' w'' : World} {B : Nat} {p0 p1 : Addr} {v0 v1 : Value} (h0 : p0.block < B) (h1 : p1.block < B) (hB : Below w'.heap.size w' w'') (h : Below w.heap.size w w' ∧ B ≤ w'.heap.size ∧ w'.cell? p0 = some v0 ∧ w'.cell? p1 = some v1) : Below w.heap.size w w'' ∧ B ≤ w''.heap.size ∧ w''.cell? p0 = some v0 ∧ w''.cell? p1 = some v1 := by
  obtain ⟨hb, hs, c0, c1⟩ := h
  exact ⟨below_trans hb hB, Nat.le_trans hs hB.size, (hB.cell (Nat.lt_of_lt_of_le h0 hs)).trans c0, (hB.cell (Nat.lt_of_lt_of_le h1 hs)).trans c1⟩
theorem hold3 {w w' w'' : World} {B : Nat} {p0 p1 p2 : Addr} {v0 v1 v2 : Value} (h0 : p0.block < B) (h1 : p1.block < B) (h2 : p2.block < B) (hB : Below w'.heap.size w' w'') (h : Below w.heap.size w w' ∧ B ≤ w'.heap.size ∧ w'.cell? p0 = some v0 ∧ w'.cell? p1 = some v1 ∧ w'.cell? p2 = some v2) : Below w.heap.size w w'' ∧ B ≤ w''.heap.size ∧ w''.cell? p0 = some v0 ∧ w''.cell? p1 = some v1 ∧ w''.cell? p2 = some v2 := by
  obtain ⟨hb, hs, c0, c1, c2⟩ := h
  exact ⟨below_trans hb hB, Nat.le_trans hs hB.size, (hB.cell (Nat.lt_of_lt_of_le h0 hs)).trans c0, (hB.cell (Nat.lt_of_lt_of_le h1 hs)).trans c1, (hB.cell (Nat.lt_of_lt_of_le h2 hs)).trans c2⟩
theorem hold4 {w w' w'' : World} {B : Nat} {p0 p1 p2 p3 : Addr} {v0 v1 v2 v3 : Value} (h0 : p0.block < B) (h1 : p1.block < B) (h2 : p2.block < B) (h3 : p3.block < B) (hB : Below w'.heap.size w' w'') (h : Below w.heap.size w w' ∧ B ≤ w'.heap.size ∧ w'.cell? p0 = some v0 ∧ w'.cell? p1 = some v1 ∧ w'.cell? p2 = some v2 ∧ w'.cell? p3 = some v3) : Below w.heap.size w w'' ∧ B ≤ w''.heap.size ∧ w''.cell? p0 = some v0 ∧ w''.cell? p1 = some v1 ∧ w''.cell? p2 = some v2 ∧ w''.cell? p3 = some v3 := by
  obtain ⟨hb, hs, c0, c1, c2, c3⟩ := h
  exact ⟨below_trans hb hB, Nat.le_trans hs hB.size, (hB.cell (Nat.lt_of_lt_of_le h0 hs)).trans c0, (hB.cell (Nat.lt_of_lt_of_le h1 hs)).trans c1, (hB.cell (Nat.lt_of_lt_of_le h2 hs)).trans c2, (hB.cell (Nat.lt_of_lt_of_le h3 hs)).trans c3⟩
theorem hold5 {w w' w'' : World} {B : Nat} {p0 p1 p2 p3 p4 : Addr} {v0 v1 v2 v3 v4 : Value} (h0 : p0.block < B) (h1 : p1.block < B) (h2 : p2.block < B) (h3 : p3.block < B) (h4 : p4.block < B) (hB : Below w'.heap.size w' w'') (h : Below w.heap.size w w' ∧ B ≤ w'.heap.size ∧ w'.cell? p0 = some v0 ∧ w'.cell? p1 = some v1 ∧ w'.cell? p2 = some v2 ∧ w'.cell? p3 = some v3 ∧ w'.cell? p4 = some v4) : Below w.heap.size w w'' ∧ B ≤ w''.heap.size ∧ w''.cell? p0 = some v0 ∧ w''.cell? p1 = some v1 ∧ w''.cell? p2 = some v2 ∧ w''.cell? p3 = some v3 ∧ w''.cell? p4 = some v4 := by
  obtain ⟨hb, hs, c0, c1, c2, c3, c4⟩ := h
  exact ⟨below_trans hb hB, Nat.le_trans hs hB.size, (hB.cell (Nat.lt_of_lt_of_le h0 hs)).trans c0, (hB.cell (Nat.lt_of_lt_of_le h1 hs)).trans c1, (hB.cell (Nat.lt_of_lt_of_le h2 hs)).trans c2, (hB.cell (Nat.lt_of_lt_of_le h3 hs)).trans c3, (hB.cell (Nat.lt_of_lt_of_le h4 hs)).trans c4⟩
theorem hold6 {w w' w'' : World} {B : Nat} {p0 p1 p2 p3 p4 p5 : Addr} {v0 v1 v2 v3 v4 v5 : Value} (h0 : p0.block < B) (h1 : p1.block < B) (h2 : p2.block < B) (h3 : p3.block < B) (h4 : p4.block < B) (h5 : p5.block < B) (hB : Below w'.heap.size w' w'') (h : Below w.heap.size w w' ∧ B ≤ w'.heap.size ∧ w'.cell? p0 = some v0 ∧ w'.cell? p1 = some v1 ∧ w'.cell? p2 = some v2 ∧ w'.cell? p3 = some v3 ∧ w'.cell? p4 = some v4 ∧ w'.cell? p5 = some v5) : Below w.heap.size w w'' ∧ B ≤ w''.heap.size ∧ w''.cell? p0 = some v0 ∧ w''.cell? p1 = some v1 ∧ w''.cell? p2 = some v2 ∧ w''.cell? p3 = some v3 ∧ w''.cell? p4 = some v4 ∧ w''.cell? p5 = some v5 := by
  obtain ⟨hb, hs, c0, c1, c2, c3, c4, c5⟩ := h
  exact ⟨below_trans hb hB, Nat.le_trans hs hB.size, (hB.cell (Nat.lt_of_lt_of_le h0 hs)).trans c0, (hB.cell (Nat.lt_of_lt_of_le h1 hs)).trans c1, (hB.cell (Nat.lt_of_lt_of_le h2 hs)).trans c2, (hB.cell (Nat.lt_of_lt_of_le h3 hs)).trans c3, (hB.cell (Nat.lt_of_lt_of_le h4 hs)).trans c4, (hB.cell (Nat.lt_of_lt_of_le h5 hs)).trans c5⟩
theorem hold7 {w w' w'' : World} {B : Nat} {p0 p1 p2 p3 p4 p5 p6 : Addr} {v0 v1 v2 v3 v4 v5 v6 : Value} (h0 : p0.block < B) (h1 : p1.block < B) (h2 : p2.block < B) (h3 : p3.block < B) (h4 : p4.block < B) (h5 : p5.block < B) (h6 : p6.block < B) (hB : Below w'.heap.size w' w'') (h : Below w.heap.size w w' ∧ B ≤ w'.heap.size ∧ w'.cell? p0 = some v0 ∧ w'.cell? p1 = some v1 ∧ w'.cell? p2 = some v2 ∧ w'.cell? p3 = some v3 ∧ w'.cell? p4 = some v4 ∧ w'.cell? p5 = some v5 ∧ w'.cell? p6 = some v6) : Below w.heap.size w w'' ∧ B ≤ w''.heap.size ∧ w''.cell? p0 = some v0 ∧ w''.cell? p1 = some v1 ∧ w''.cell? p2 = some v2 ∧ w''.cell? p3 = some v3 ∧ w''.cell? p4 = some v4 ∧ w''.cell? p5 = some v5 ∧ w''.cell? p6 = some v6 := by
  obtain ⟨hb, hs, c0, c1, c2, c3, c4, c5, c6⟩ := h
  exact ⟨below_trans hb hB, Nat.le_trans hs hB.size, (hB.cell (Nat.lt_of_lt_of_le h0 hs)).trans c0, (hB.cell (Nat.lt_of_lt_of_le h1 hs)).trans c1, (hB.cell (Nat.lt_of_lt_of_le h2 hs)).trans c2, (hB.cell (Nat.lt_of_lt_of_le h3 hs)).trans c3, (hB.cell (Nat.lt_of_lt_of_le h4 hs)).trans c4, (hB.cell (Nat.lt_of_lt_of_le h5 hs)).trans c5, (hB.cell (Nat.lt_of_lt_of_le h6 hs)).trans c6⟩
theorem hold8 {w w' w'' : World} {B : Nat} {p0 p1 p2 p3 p4 p5 p6 p7 : Addr} {v0 v1 v2 v3 v4 v5 v6 v7 : Value} (h0 : p0.block < B) (h1 : p1.block < B) (h2 : p2.block < B) (h3 : p3.block < B) (h4 : p4.block < B) (h5 : p5.block < B) (h6 : p6.block < B) (h7 : p7.block < B) (hB : Below w'.heap.size w' w'') (h : Below w.heap.size w w' ∧ B ≤ w'.heap.size ∧ w'.cell? p0 = some v0 ∧ w'.cell? p1 = some v1 ∧ w'.cell? p2 = some v2 ∧ w'.cell? p3 = some v3 ∧ w'.cell? p4 = some v4 ∧ w'.cell? p5 = some v5 ∧ w'.cell? p6 = some v6 ∧ w'.cell? p7 = some v7) : Below w.heap.size w w'' ∧ B ≤ w''.heap.size ∧ w''.cell? p0 = some v0 ∧ w''.cell? p1 = some v1 ∧ w''.cell? p2 = some v2 ∧ w''.cell? p3 = some v3 ∧ w''.cell? p4 = some v4 ∧ w''.cell? p5 = some v5 ∧ w''.cell? p6 = some v6 ∧ w''.cell? p7 = some v7 := by
  obtain ⟨hb, hs, c0, c1, c2, c3, c4, c5, c6, c7⟩ := h
  exact ⟨below_trans hb hB, Nat.le_trans hs hB.size, (hB.cell (Nat.lt_of_lt_of_le h0 hs)).trans c0, (hB.cell (Nat.lt_of_lt_of_le h1 hs)).trans c1, (hB.cell (Nat.lt_of_lt_of_le h2 hs)).trans c2, (hB.cell (Nat.lt_of_lt_of_le h3 hs)).trans c3, (hB.cell (Nat.lt_of_lt_of_le h4 hs)).trans c4, (hB.cell (Nat.lt_of_lt_of_le h5 hs)).trans c5, (hB.cell (Nat.lt_of_lt_of_le h6 hs)).trans c6, (hB.cell (Nat.lt_of_lt_of_le h7 hs)).trans c7⟩
theorem hold9 {w w' w'' : World} {B : Nat} {p0 p1 p2 p3 p4 p5 p6 p7 p8 : Addr} {v0 v1 v2 v3 v4 v5 v6 v7 v8 : Value} (h0 : p0.block < B) (h1 : p1.block < B) (h2 : p2.block < B) (h3 : p3.block < B) (h4 : p4.block < B) (h5 : p5.block < B) (h6 : p6.block < B) (h7 : p7.block < B) (h8 : p8.block < B) (hB : Below w'.heap.size w' w'') (h : Below w.heap.size w w' ∧ B ≤ w'.heap.size ∧ w'.cell? p0 = some v0 ∧ w'.cell? p1 = some v1 ∧ w'.cell? p2 = some v2 ∧ w'.cell? p3 = some v3 ∧ w'.cell? p4 = some v4 ∧ w'.cell? p5 = some v5 ∧ w'.cell? p6 = some v6 ∧ w'.cell? p7 = some v7 ∧ w'.cell? p8 = some v8) : Below w.heap.size w w'' ∧ B ≤ w''.heap.size ∧ w''.cell? p0 = some v0 ∧ w''.cell? p1 = some v1 ∧ w''.cell? p2 = some v2 ∧ w''.cell? p3 = some v3 ∧ w''.cell? p4 = some v4 ∧ w''.cell? p5 = some v5 ∧ w''.cell? p6 = some v6 ∧ w''.cell? p7 = some v7 ∧ w''.cell? p8 = some v8 := by
  obtain ⟨hb, hs, c0, c1, c2, c3, c4, c5, c6, c7, c8⟩ := h
  exact ⟨below_trans hb hB, Nat.le_trans hs hB.size, (hB.cell (Nat.lt_of_lt_of_le h0 hs)).trans c0, (hB.cell (Nat.lt_of_lt_of_le h1 hs)).trans c1, (hB.cell (Nat.lt_of_lt_of_le h2 hs)).trans c2, (hB.cell (Nat.lt_of_lt_of_le h3 hs)).trans c3, (hB.cell (Nat.lt_of_lt_of_le h4 hs)).trans c4, (hB.cell (Nat.lt_of_lt_of_le h5 hs)).trans c5, (hB.cell (Nat.lt_of_lt_of_le h6 hs)).trans c6, (hB.cell (Nat.lt_of_lt_of_le h7 hs)).trans c7, (hB.cell (Nat.lt_of_lt_of_le h8 hs)).trans c8⟩
theorem hold10 {w w' w'' : World} {B : Nat} {p0 p1 p2 p3 p4 p5 p6 p7 p8 p9 : Addr} {v0 v1 v2 v3 v4 v5 v6 v7 v8 v9 : Value} (h0 : p0.block < B) (h1 : p1.block < B) (h2 : p2.block < B) (h3 : p3.block < B) (h4 : p4.block < B) (h5 : p5.block < B) (h6 : p6.block < B) (h7 : p7.block < B) (h8 : p8.block < B) (h9 : p9.block < B) (hB : Below w'.heap.size w' w'') (h : Below w.heap.size w w' ∧ B ≤ w'.heap.size ∧ w'.cell? p0 = some v0 ∧ w'.cell? p1 = some v1 ∧ w'.cell? p2 = some v2 ∧ w'.cell? p3 = some v3 ∧ w'.cell? p4 = some v4 ∧ w'.cell? p5 = some v5 ∧ w'.cell? p6 = some v6 ∧ w'.cell? p7 = some v7 ∧ w'.cell? p8 = some v8 ∧ w'.cell? p9 = some v9) : Below w.heap.size w w'' ∧ B ≤ w''.heap.size ∧ w''.cell? p0 = some v0 ∧ w''.cell? p1 = some v1 ∧ w''.cell? p2 = some v2 ∧ w''.cell? p3 = some v3 ∧ w''.cell? p4 = some v4 ∧ w''.cell? p5 = some v5 ∧ w''.cell? p6 = some v6 ∧ w''.cell? p7 = some v7 ∧ w''.cell? p8 = some v8 ∧ w''.cell? p9 = some v9 := by
  obtain ⟨hb, hs, c0, c1, c2, c3, c4, c5, c6, c7, c8, c9⟩ := h
  exact ⟨below_trans hb hB, Nat.le_trans hs hB.size, (hB.cell (Nat.lt_of_lt_of_le h0 hs)).trans c0, (hB.cell (Nat.lt_of_lt_of_le h1 hs)).trans c1, (hB.cell (Nat.lt_of_lt_of_le h2 hs)).trans c2, (hB.cell (Nat.lt_of_lt_of_le h3 hs)).trans c3, (hB.cell (Nat.lt_of_lt_of_le h4 hs)).trans c4, (hB.cell (Nat.lt_of_lt_of_le h5 hs)).trans c5, (hB.cell (Nat.lt_of_lt_of_le h6 hs)).trans c6, (hB.cell (Nat.lt_of_lt_of_le h7 hs)).trans c7, (hB.cell (Nat.lt_of_lt_of_le h8 hs)).trans c8, (hB.cell (Nat.lt_of_lt_of_le h9 hs)).trans c9⟩
theorem hold11 {w w' w'' : World} {B : Nat} {p0 p1 p2 p3 p4 p5 p6 p7 p8 p9 p10 : Addr} {v0 v1 v2 v3 v4 v5 v6 v7 v8 v9 v10 : Value} (h0 : p0.block < B) (h1 : p1.block < B) (h2 : p2.block < B) (h3 : p3.block < B) (h4 : p4.block < B) (h5 : p5.block < B) (h6 : p6.block < B) (h7 : p7.block < B) (h8 : p8.block < B) (h9 : p9.block < B) (h10 : p10.block < B) (hB : Below w'.heap.size w' w'') (h : Below w.heap.size w w' ∧ B ≤ w'.heap.size ∧ w'.cell? p0 = some v0 ∧ w'.cell? p1 = some v1 ∧ w'.cell? p2 = some v2 ∧ w'.cell? p3 = some v3 ∧ w'.cell? p4 = some v4 ∧ w'.cell? p5 = some v5 ∧ w'.cell? p6 = some v6 ∧ w'.cell? p7 = some v7 ∧ w'.cell? p8 = some v8 ∧ w'.cell? p9 = some v9 ∧ w'.cell? p10 = some v10) : Below w.heap.size w w'' ∧ B ≤ w''.heap.size ∧ w''.cell? p0 = some v0 ∧ w''.cell? p1 = some v1 ∧ w''.cell? p2 = some v2 ∧ w''.cell? p3 = some v3 ∧ w''.cell? p4 = some v4 ∧ w''.cell? p5 = some v5 ∧ w''.cell? p6 = some v6 ∧ w''.cell? p7 = some v7 ∧ w''.cell? p8 = some v8 ∧ w''.cell? p9 = some v9 ∧ w''.cell? p10 = some v10 := by
  obtain ⟨hb, hs, c0, c1, c2, c3, c4, c5, c6, c7, c8, c9, c10⟩ := h
  exact ⟨below_trans hb hB, Nat.le_trans hs hB.size, (hB.cell (Nat.lt_of_lt_of_le h0 hs)).trans c0, (hB.cell (Nat.lt_of_lt_of_le h1 hs)).trans c1, (hB.cell (Nat.lt_of_lt_of_le h2 hs)).trans c2, (hB.cell (Nat.lt_of_lt_of_le h3 hs)).trans c3, (hB.cell (Nat.lt_of_lt_of_le h4 hs)).trans c4, (hB.cell (Nat.lt_of_lt_of_le h5 hs)).trans c5, (hB.cell (Nat.lt_of_lt_of_le h6 hs)).trans c6, (hB.cell (Nat.lt_of_lt_of_le h7 hs)).trans c7, (hB.cell (Nat.lt_of_lt_of_le h8 hs)).trans c8, (hB.cell (Nat.lt_of_lt_of_le h9 hs)).trans c9, (hB.cell (Nat.lt_of_lt_of_le h10 hs)).trans c10⟩
theorem hold12 {w w' w'' : World} {B : Nat} {p0 p1 p2 p3 p4 p5 p6 p7 p8 p9 p10 p11 : Addr} {v0 v1 v2 v3 v4 v5 v6 v7 v8 v9 v10 v11 : Value} (h0 : p0.block < B) (h1 : p1.block < B) (h2 : p2.block < B) (h3 : p3.block < B) (h4 : p4.block < B) (h5 : p5.block < B) (h6 : p6.block < B) (h7 : p7.block < B) (h8 : p8.block < B) (h9 : p9.block < B) (h10 : p10.block < B) (h11 : p11.block < B) (hB : Below w'.heap.size w' w'') (h : Below w.heap.size w w' ∧ B ≤ w'.heap.size ∧ w'.cell? p0 = some v0 ∧ w'.cell? p1 = some v1 ∧ w'.cell? p2 = some v2 ∧ w'.cell? p3 = some v3 ∧ w'.cell? p4 = some v4 ∧ w'.cell? p5 = some v5 ∧ w'.cell? p6 = some v6 ∧ w'.cell? p7 = some v7 ∧ w'.cell? p8 = some v8 ∧ w'.cell? p9 = some v9 ∧ w'.cell? p10 = some v10 ∧ w'.cell? p11 = some v11) : Below w.heap.size w w'' ∧ B ≤ w''.heap.size ∧ w''.cell? p0 = some v0 ∧ w''.cell? p1 = some v1 ∧ w''.cell? p2 = some v2 ∧ w''.cell? p3 = some v3 ∧ w''.cell? p4 = some v4 ∧ w''.cell? p5 = some v5 ∧ w''.cell? p6 = some v6 ∧ w''.cell? p7 = some v7 ∧ w''.cell? p8 = some v8 ∧ w''.cell? p9 = some v9 ∧ w''.cell? p10 = some v10 ∧ w''.cell? p11 = some v11 := by
  obtain ⟨hb, hs, c0, c1, c2, c3, c4, c5, c6, c7, c8, c9, c10, c11⟩ := h
  exact ⟨below_trans hb hB, Nat.le_trans hs hB.size, (hB.cell (Nat.lt_of_lt_of_le h0 hs)).trans c0, (hB.cell (Nat.lt_of_lt_of_le h1 hs)).trans c1, (hB.cell (Nat.lt_of_lt_of_le h2 hs)).trans c2, (hB.cell (Nat.lt_of_lt_of_le h3 hs)).trans c3, (hB.cell (Nat.lt_of_lt_of_le h4 hs)).trans c4, (hB.cell (Nat.lt_of_lt_of_le h5 hs)).trans c5, (hB.cell (Nat.lt_of_lt_of_le h6 hs)).trans c6, (hB.cell (Nat.lt_of_lt_of_le h7 hs)).trans c7, (hB.cell (Nat.lt_of_lt_of_le h8 hs)).trans c8, (hB.cell (Nat.lt_of_lt_of_le h9 hs)).trans c9, (hB.cell (Nat.lt_of_lt_of_le h10 hs)).trans c10, (hB.cell (Nat.lt_of_lt_of_le h11 hs)).trans c11⟩
theorem hold13 {w w' w'' : World} {B : Nat} {p0 p1 p2 p3 p4 p5 p6 p7 p8 p9 p10 p11 p12 : Addr} {v0 v1 v2 v3 v4 v5 v6 v7 v8 v9 v10 v11 v12 : Value} (h0 : p0.block < B) (h1 : p1.block < B) (h2 : p2.block < B) (h3 : p3.block < B) (h4 : p4.block < B) (h5 : p5.block < B) (h6 : p6.block < B) (h7 : p7.block < B) (h8 : p8.block < B) (h9 : p9.block < B) (h10 : p10.block < B) (h11 : p11.block < B) (h12 : p12.block < B) (hB : Below w'.heap.size w' w'') (h : Below w.heap.size w w' ∧ B ≤ w'.heap.size ∧ w'.cell? p0 = some v0 ∧ w'.cell? p1 = some v1 ∧ w'.cell? p2 = some v2 ∧ w'.cell? p3 = some v3 ∧ w'.cell? p4 = some v4 ∧ w'.cell? p5 = some v5 ∧ w'.cell? p6 = some v6 ∧ w'.cell? p7 = some v7 ∧ w'.cell? p8 = some v8 ∧ w'.cell? p9 = some v9 ∧ w'.cell? p10 = some v10 ∧ w'.cell? p11 = some v11 ∧ w'.cell? p12 = some v12) : Below w.heap.size w w'' ∧ B ≤ w''.heap.size ∧ w''.cell? p0 = some v0 ∧ w''.cell? p1 = some v1 ∧ w''.cell? p2 = some v2 ∧ w''.cell? p3 = some v3 ∧ w''.cell? p4 = some v4 ∧ w''.cell? p5 = some v5 ∧ w''.cell? p6 = some v6 ∧ w''.cell? p7 = some v7 ∧ w''.cell? p8 = some v8 ∧ w''.cell? p9 = some v9 ∧ w''.cell? p10 = some v10 ∧ w''.cell? p11 = some v11 ∧ w''.cell? p12 = some v12 := by
  obtain ⟨hb, hs, c0, c1, c2, c3, c4, c5, c6, c7, c8, c9, c10, c11, c12⟩ := h
  exact ⟨below_trans hb hB, Nat.le_trans hs hB.size, (hB.cell (Nat.lt_of_lt_of_le h0 hs)).trans c0, (hB.cell (Nat.lt_of_lt_of_le h1 hs)).trans c1, (hB.cell (Nat.lt_of_lt_of_le h2 hs)).trans c2, (hB.cell (Nat.lt_of_lt_of_le h3 hs)).trans c3, (hB.cell (Nat.lt_of_lt_of_le h4 hs)).trans c4, (hB.cell (Nat.lt_of_lt_of_le h5 hs)).trans c5, (hB.cell (Nat.lt_of_lt_of_le h6 hs)).trans c6, (hB.cell (Nat.lt_of_lt_of_le h7 hs)).trans c7, (hB.cell (Nat.lt_of_lt_of_le h8 hs)).trans c8, (hB.cell (Nat.lt_of_lt_of_le h9 hs)).trans c9, (hB.cell (Nat.lt_of_lt_of_le h10 hs)).trans c10, (hB.cell (Nat.lt_of_lt_of_le h11 hs)).trans c11, (hB.cell (Nat.lt_of_lt_of_le h12 hs)).trans c12⟩
theorem hold14 {w w' w'' : World} {B : Nat} {p0 p1 p2 p3 p4 p5 p6 p7 p8 p9 p10 p11 p12 p13 : Addr} {v0 v1 v2 v3 v4 v5 v6 v7 v8 v9 v10 v11 v12 v13 : Value} (h0 : p0.block < B) (h1 : p1.block < B) (h2 : p2.block < B) (h3 : p3.block < B) (h4 : p4.block < B) (h5 : p5.block < B) (h6 : p6.block < B) (h7 : p7.block < B) (h8 : p8.block < B) (h9 : p9.block < B) (h10 : p10.block < B) (h11 : p11.block < B) (h12 : p12.block < B) (h13 : p13.block < B) (hB : Below w'.heap.size w' w'') (h : Below w.heap.size w w' ∧ B ≤ w'.heap.size ∧ w'.cell? p0 = some v0 ∧ w'.cell? p1 = some v1 ∧ w'.cell? p2 = some v2 ∧ w'.cell? p3 = some v3 ∧ w'.cell? p4 = some v4 ∧ w'.cell? p5 = some v5 ∧ w'.cell? p6 = some v6 ∧ w'.cell? p7 = some v7 ∧ w'.cell? p8 = some v8 ∧ w'.cell? p9 = some v9 ∧ w'.cell? p10 = some v10 ∧ w'.cell? p11 = some v11 ∧ w'.cell? p12 = some v12 ∧ w'.cell? p13 = some v13) : Below w.heap.size w w'' ∧ B ≤ w''.heap.size ∧ w''.cell? p0 = some v0 ∧ w''.cell? p1 = some v1 ∧ w''.cell? p2 = some v2 ∧ w''.cell? p3 = some v3 ∧ w''.cell? p4 = some v4 ∧ w''.cell? p5 = some v5 ∧ w''.cell? p6 = some v6 ∧ w''.cell? p7 = some v7 ∧ w''.cell? p8 = some v8 ∧ w''.cell? p9 = some v9 ∧ w''.cell? p10 = some v10 ∧ w''.cell? p11 = some v11 ∧ w''.cell? p12 = some v12 ∧ w''.cell? p13 = some v13 := by
  obtain ⟨hb, hs, c0, c1, c2, c3, c4, c5, c6, c7, c8, c9, c10, c11, c12, c13⟩ := h
  exact ⟨below_trans hb hB, Nat.le_trans hs hB.size, (hB.cell (Nat.lt_of_lt_of_le h0 hs)).trans c0, (hB.cell (Nat.lt_of_lt_of_le h1 hs)).trans c1, (hB.cell (Nat.lt_of_lt_of_le h2 hs)).trans c2, (hB.cell (Nat.lt_of_lt_of_le h3 hs)).trans c3, (hB.cell (Nat.lt_of_lt_of_le h4 hs)).trans c4, (hB.cell (Nat.lt_of_lt_of_le h5 hs)).trans c5, (hB.cell (Nat.lt_of_lt_of_le h6 hs)).trans c6, (hB.cell (Nat.lt_of_lt_of_le h7 hs)).trans c7, (hB.cell (Nat.lt_of_lt_of_le h8 hs)).trans c8, (hB.cell (Nat.lt_of_lt_of_le h9 hs)).trans c9, (hB.cell (Nat.lt_of_lt_of_le h10 hs)).trans c10, (hB.cell (Nat.lt_of_lt_of_le h11 hs)).trans c11, (hB.cell (Nat.lt_of_lt_of_le h12 hs)).trans c12, (hB.cell (Nat.lt_of_lt_of_le h13 hs)).trans c13⟩
theorem hold15 {w w' w'' : World} {B : Nat} {p0 p1 p2 p3 p4 p5 p6 p7 p8 p9 p10 p11 p12 p13 p14 : Addr} {v0 v1 v2 v3 v4 v5 v6 v7 v8 v9 v10 v11 v12 v13 v14 : Value} (h0 : p0.block < B) (h1 : p1.block < B) (h2 : p2.block < B) (h3 : p3.block < B) (h4 : p4.block < B) (h5 : p5.block < B) (h6 : p6.block < B) (h7 : p7.block < B) (h8 : p8.block < B) (h9 : p9.block < B) (h10 : p10.block < B) (h11 : p11.block < B) (h12 : p12.block < B) (h13 : p13.block < B) (h14 : p14.block < B) (hB : Below w'.heap.size w' w'') (h : Below w.heap.size w w' ∧ B ≤ w'.heap.size ∧ w'.cell? p0 = some v0 ∧ w'.cell? p1 = some v1 ∧ w'.cell? p2 = some v2 ∧ w'.cell? p3 = some v3 ∧ w'.cell? p4 = some v4 ∧ w'.cell? p5 = some v5 ∧ w'.cell? p6 = some v6 ∧ w'.cell? p7 = some v7 ∧ w'.cell? p8 = some v8 ∧ w'.cell? p9 = some v9 ∧ w'.cell? p10 = some v10 ∧ w'.cell? p11 = some v11 ∧ w'.cell? p12 = some v12 ∧ w'.cell? p13 = some v13 ∧ w'.cell? p14 = some v14) : Below w.heap.size w w'' ∧ B ≤ w''.heap.size ∧ w''.cell? p0 = some v0 ∧ w''.cell? p1 = some v1 ∧ w''.cell? p2 = some v2 ∧ w''.cell? p3 = some v3 ∧ w''.cell? p4 = some v4 ∧ w''.cell? p5 = some v5 ∧ w''.cell? p6 = some v6 ∧ w''.cell? p7 = some v7 ∧ w''.cell? p8 = some v8 ∧ w''.cell? p9 = some v9 ∧ w''.cell? p10 = some v10 ∧ w''.cell? p11 = some v11 ∧ w''.cell? p12 = some v12 ∧ w''.cell? p13 = some v13 ∧ w''.cell? p14 = some v14 := by
  obtain ⟨hb, hs, c0, c1, c2, c3, c4, c5, c6, c7, c8, c9, c10, c11, c12, c13, c14⟩ := h
  exact ⟨below_trans hb hB, Nat.le_trans hs hB.size, (hB.cell (Nat.lt_of_lt_of_le h0 hs)).trans c0, (hB.cell (Nat.lt_of_lt_of_le h1 hs)).trans c1, (hB.cell (Nat.lt_of_lt_of_le h2 hs)).trans c2, (hB.cell (Nat.lt_of_lt_of_le h3 hs)).trans c3, (hB.cell (Nat.lt_of_lt_of_le h4 hs)).trans c4, (hB.cell (Nat.lt_of_lt_of_le h5 hs)).trans c5, (hB.cell (Nat.lt_of_lt_of_le h6 hs)).trans c6, (hB.cell (Nat.lt_of_lt_of_le h7 hs)).trans c7, (hB.cell (Nat.lt_of_lt_of_le h8 hs)).trans c8, (hB.cell (Nat.lt_of_lt_of_le h9 hs)).trans c9, (hB.cell (Nat.lt_of_lt_of_le h10 hs)).trans c10, (hB.cell (Nat.lt_of_lt_of_le h11 hs)).trans c11, (hB.cell (Nat.lt_of_lt_of_le h12 hs)).trans c12, (hB.cell (Nat.lt_of_lt_of_le h13 hs)).trans c13, (hB.cell (Nat.lt_of_lt_of_le h14 hs)).trans c14⟩
theorem hold16 {w w' w'' : World} {B : Nat} {p0 p1 p2 p3 p4 p5 p6 p7 p8 p9 p10 p11 p12 p13 p14 p15 : Addr} {v0 v1 v2 v3 v4 v5 v6 v7 v8 v9 v10 v11 v12 v13 v14 v15 : Value} (h0 : p0.block < B) (h1 : p1.block < B) (h2 : p2.block < B) (h3 : p3.block < B) (h4 : p4.block < B) (h5 : p5.block < B) (h6 : p6.block < B) (h7 : p7.block < B) (h8 : p8.block < B) (h9 : p9.block < B) (h10 : p10.block < B) (h11 : p11.block < B) (h12 : p12.block < B) (h13 : p13.block < B) (h14 : p14.block < B) (h15 : p15.block < B) (hB : Below w'.heap.size w' w'') (h : Below w.heap.size w w' ∧ B ≤ w'.heap.size ∧ w'.cell? p0 = some v0 ∧ w'.cell? p1 = some v1 ∧ w'.cell? p2 = some v2 ∧ w'.cell? p3 = some v3 ∧ w'.cell? p4 = some v4 ∧ w'.cell? p5 = some v5 ∧ w'.cell? p6 = some v6 ∧ w'.cell? p7 = some v7 ∧ w'.cell? p8 = some v8 ∧ w'.cell? p9 = some v9 ∧ w'.cell? p10 = some v10 ∧ w'.cell? p11 = some v11 ∧ w'.cell? p12 = some v12 ∧ w'.cell? p13 = some v13 ∧ w'.cell? p14 = some v14 ∧ w'.cell? p15 = some v15) : Below w.heap.size w w'' ∧ B ≤ w''.heap.size ∧ w''.cell? p0 = some v0 ∧ w''.cell? p1 = some v1 ∧ w''.cell? p2 = some v2 ∧ w''.cell? p3 = some v3 ∧ w''.cell? p4 = some v4 ∧ w''.cell? p5 = some v5 ∧ w''.cell? p6 = some v6 ∧ w''.cell? p7 = some v7 ∧ w''.cell? p8 = some v8 ∧ w''.cell? p9 = some v9 ∧ w''.cell? p10 = some v10 ∧ w''.cell? p11 = some v11 ∧ w''.cell? p12 = some v12 ∧ w''.cell? p13 = some v13 ∧ w''.cell? p14 = some v14 ∧ w''.cell? p15 = some v15 := by
  obtain ⟨hb, hs, c0, c1, c2, c3, c4, c5, c6, c7, c8, c9, c10, c11, c12, c13, c14, c15⟩ := h
  exact ⟨below_trans hb hB, Nat.le_trans hs hB.size, (hB.cell (Nat.lt_of_lt_of_le h0 hs)).trans c0, (hB.cell (Nat.lt_of_lt_of_le h1 hs)).trans c1, (hB.cell (Nat.lt_of_lt_of_le h2 hs)).trans c2, (hB.cell (Nat.lt_of_lt_of_le h3 hs)).trans c3, (hB.cell (Nat.lt_of_lt_of_le h4 hs)).trans c4, (hB.cell (Nat.lt_of_lt_of_le h5 hs)).trans c5, (hB.cell (Nat.lt_of_lt_of_le h6 hs)).trans c6, (hB.cell (Nat.lt_of_lt_of_le h7 hs)).trans c7, (hB.cell (Nat.lt_of_lt_of_le h8 hs)).trans c8, (hB.cell (Nat.lt_of_lt_of_le h9 hs)).trans c9, (hB.cell (Nat.lt_of_lt_of_le h10 hs)).trans c10, (hB.cell (Nat.lt_of_lt_of_le h11 hs)).trans c11, (hB.cell (Nat.lt_of_lt_of_le h12 hs)).trans c12, (hB.cell (Nat.lt_of_lt_of_le h13 hs)).trans c13, (hB.cell (Nat.lt_of_lt_of_le h14 hs)).trans c14, (hB.cell (Nat.lt_of_lt_of_le h15 hs)).trans c15⟩
theorem hold17 {w w' w'' : World} {B : Nat} {p0 p1 p2 p3 p4 p5 p6 p7 p8 p9 p10 p11 p12 p13 p14 p15 p16 : Addr} {v0 v1 v2 v3 v4 v5 v6 v7 v8 v9 v10 v11 v12 v13 v14 v15 v16 : Value} (h0 : p0.block < B) (h1 : p1.block < B) (h2 : p2.block < B) (h3 : p3.block < B) (h4 : p4.block < B) (h5 : p5.block < B) (h6 : p6.block < B) (h7 : p7.block < B) (h8 : p8.block < B) (h9 : p9.block < B) (h10 : p10.block < B) (h11 : p11.block < B) (h12 : p12.block < B) (h13 : p13.block < B) (h14 : p14.block < B) (h15 : p15.block < B) (h16 : p16.block < B) (hB : Below w'.heap.size w' w'') (h : Below w.heap.size w w' ∧ B ≤ w'.heap.size ∧ w'.cell? p0 = some v0 ∧ w'.cell? p1 = some v1 ∧ w'.cell? p2 = some v2 ∧ w'.cell? p3 = some v3 ∧ w'.cell? p4 = some v4 ∧ w'.cell? p5 = some v5 ∧ w'.cell? p6 = some v6 ∧ w'.cell? p7 = some v7 ∧ w'.cell? p8 = some v8 ∧ w'.cell? p9 = some v9 ∧ w'.cell? p10 = some v10 ∧ w'.cell? p11 = some v11 ∧ w'.cell? p12 = some v12 ∧ w'.cell? p13 = some v13 ∧ w'.cell? p14 = some v14 ∧ w'.cell? p15 = some v15 ∧ w'.cell? p16 = some v16) : Below w.heap.size w w'' ∧ B ≤ w''.heap.size ∧ w''.cell? p0 = some v0 ∧ w''.cell? p1 = some v1 ∧ w''.cell? p2 = some v2 ∧ w''.cell? p3 = some v3 ∧ w''.cell? p4 = some v4 ∧ w''.cell? p5 = some v5 ∧ w''.cell? p6 = some v6 ∧ w''.cell? p7 = some v7 ∧ w''.cell? p8 = some v8 ∧ w''.cell? p9 = some v9 ∧ w''.cell? p10 = some v10 ∧ w''.cell? p11 = some v11 ∧ w''.cell? p12 = some v12 ∧ w''.cell? p13 = some v13 ∧ w''.cell? p14 = some v14 ∧ w''.cell? p15 = some v15 ∧ w''.cell? p16 = some v16 := by
  obtain ⟨hb, hs, c0, c1, c2, c3, c4, c5, c6, c7, c8, c9, c10, c11, c12, c13, c14, c15, c16⟩ := h
  exact ⟨below_trans hb hB, Nat.le_trans hs hB.size, (hB.cell (Nat.lt_of_lt_of_le h0 hs)).trans c0, (hB.cell (Nat.lt_of_lt_of_le h1 hs)).trans c1, (hB.cell (Nat.lt_of_lt_of_le h2 hs)).trans c2, (hB.cell (Nat.lt_of_lt_of_le h3 hs)).trans c3, (hB.cell (Nat.lt_of_lt_of_le h4 hs)).trans c4, (hB.cell (Nat.lt_of_lt_of_le h5 hs)).trans c5, (hB.cell (Nat.lt_of_lt_of_le h6 hs)).trans c6, (hB.cell (Nat.lt_of_lt_of_le h7 hs)).trans c7, (hB.cell (Nat.lt_of_lt_of_le h8 hs)).trans c8, (hB.cell (Nat.lt_of_lt_of_le h9 hs)).trans c9, (hB.cell (Nat.lt_of_lt_of_le h10 hs)).trans c10, (hB.cell (Nat.lt_of_lt_of_le h11 hs)).trans c11, (hB.cell (Nat.lt_of_lt_of_le h12 hs)).trans c12, (hB.cell (Nat.lt_of_lt_of_le h13 hs)).trans c13, (hB.cell (Nat.lt_of_lt_of_le h14 hs)).trans c14, (hB.cell (Nat.lt_of_lt_of_le h15 hs)).trans c15, (hB.cell (Nat.lt_of_lt_of_le h16 hs)).trans c16⟩
theorem hold18 {w w' w'' : World} {B : Nat} {p0 p1 p2 p3 p4 p5 p6 p7 p8 p9 p10 p11 p12 p13 p14 p15 p16 p17 : Addr} {v0 v1 v2 v3 v4 v5 v6 v7 v8 v9 v10 v11 v12 v13 v14 v15 v16 v17 : Value} (h0 : p0.block < B) (h1 : p1.block < B) (h2 : p2.block < B) (h3 : p3.block < B) (h4 : p4.block < B) (h5 : p5.block < B) (h6 : p6.block < B) (h7 : p7.block < B) (h8 : p8.block < B) (h9 : p9.block < B) (h10 : p10.block < B) (h11 : p11.block < B) (h12 : p12.block < B) (h13 : p13.block < B) (h14 : p14.block < B) (h15 : p15.block < B) (h16 : p16.block < B) (h17 : p17.block < B) (hB : Below w'.heap.size w' w'') (h : Below w.heap.size w w' ∧ B ≤ w'.heap.size ∧ w'.cell? p0 = some v0 ∧ w'.cell? p1 = some v1 ∧ w'.cell? p2 = some v2 ∧ w'.cell? p3 = some v3 ∧ w'.cell? p4 = some v4 ∧ w'.cell? p5 = some v5 ∧ w'.cell? p6 = some v6 ∧ w'.cell? p7 = some v7 ∧ w'.cell? p8 = some v8 ∧ w'.cell? p9 = some v9 ∧ w'.cell? p10 = some v10 ∧ w'.cell? p11 = some v11 ∧ w'.cell? p12 = some v12 ∧ w'.cell? p13 = some v13 ∧ w'.cell? p14 = some v14 ∧ w'.cell? p15 = some v15 ∧ w'.cell? p16 = some v16 ∧ w'.cell? p17 = some v17) : Below w.heap.size w w'' ∧ B ≤ w''.heap.size ∧ w''.cell? p0 = some v0 ∧ w''.cell? p1 = some v1 ∧ w''.cell? p2 = some v2 ∧ w''.cell? p3 = some v3 ∧ w''.cell? p4 = some v4 ∧ w''.cell? p5 = some v5 ∧ w''.cell? p6 = some v6 ∧ w''.cell? p7 = some v7 ∧ w''.cell? p8 = some v8 ∧ w''.cell? p9 = some v9 ∧ w''.cell? p10 = some v10 ∧ w''.cell? p11 = some v11 ∧ w''.cell? p12 = some v12 ∧ w''.cell? p13 = some v13 ∧ w''.cell? p14 = some v14 ∧ w''.cell? p15 = some v15 ∧ w''.cell? p16 = some v16 ∧ w''.cell? p17 = some v17 := by
  obtain ⟨hb, hs, c0, c1, c2, c3, c4, c5, c6, c7, c8, c9, c10, c11, c12, c13, c14, c15, c16, c17⟩ := h
  exact ⟨below_trans hb hB, Nat.le_trans hs hB.size, (hB.cell (Nat.lt_of_lt_of_le h0 hs)).trans c0, (hB.cell (Nat.lt_of_lt_of_le h1 hs)).trans c1, (hB.cell (Nat.lt_of_lt_of_le h2 hs)).trans c2, (hB.cell (Nat.lt_of_lt_of_le h3 hs)).trans c3, (hB.cell (Nat.lt_of_lt_of_le h4 hs)).trans c4, (hB.cell (Nat.lt_of_lt_of_le h5 hs)).trans c5, (hB.cell (Nat.lt_of_lt_of_le h6 hs)).trans c6, (hB.cell (Nat.lt_of_lt_of_le h7 hs)).trans c7, (hB.cell (Nat.lt_of_lt_of_le h8 hs)).trans c8, (hB.cell (Nat.lt_of_lt_of_le h9 hs)).trans c9, (hB.cell (Nat.lt_of_lt_of_le h10 hs)).trans c10, (hB.cell (Nat.lt_of_lt_of_le h11 hs)).trans c11, (hB.cell (Nat.lt_of_lt_of_le h12 hs)).trans c12, (hB.cell (Nat.lt_of_lt_of_le h13 hs)).trans c13, (hB.cell (Nat.lt_of_lt_of_le h14 hs)).trans c14, (hB.cell (Nat.lt_of_lt_of_le h15 hs)).trans c15, (hB.cell (Nat.lt_of_lt_of_le h16 hs)).trans c16, (hB.cell (Nat.lt_of_lt_of_le h17 hs)).trans c17⟩
theorem hold19 {w w' w'' : World} {B : Nat} {p0 p1 p2 p3 p4 p5 p6 p7 p8 p9 p10 p11 p12 p13 p14 p15 p16 p17 p18 : Addr} {v0 v1 v2 v3 v4 v5 v6 v7 v8 v9 v10 v11 v12 v13 v14 v15 v16 v17 v18 : Value} (h0 : p0.block < B) (h1 : p1.block < B) (h2 : p2.block < B) (h3 : p3.block < B) (h4 : p4.block < B) (h5 : p5.block < B) (h6 : p6.block < B) (h7 : p7.block < B) (h8 : p8.block < B) (h9 : p9.block < B) (h10 : p10.block < B) (h11 : p11.block < B) (h12 : p12.block < B) (h13 : p13.block < B) (h14 : p14.block < B) (h15 : p15.block < B) (h16 : p16.block < B) (h17 : p17.block < B) (h18 : p18.block < B) (hB : Below w'.heap.size w' w'') (h : Below w.heap.size w w' ∧ B ≤ w'.heap.size ∧ w'.cell? p0 = some v0 ∧ w'.cell? p1 = some v1 ∧ w'.cell? p2 = some v2 ∧ w'.cell? p3 = some v3 ∧ w'.cell? p4 = some v4 ∧ w'.cell? p5 = some v5 ∧ w'.cell? p6 = some v6 ∧ w'.cell? p7 = some v7 ∧ w'.cell? p8 = some v8 ∧ w'.cell? p9 = some v9 ∧ w'.cell? p10 = some v10 ∧ w'.cell? p11 = some v11 ∧ w'.cell? p12 = some v12 ∧ w'.cell? p13 = some v13 ∧ w'.cell? p14 = some v14 ∧ w'.cell? p15 = some v15 ∧ w'.cell? p16 = some v16 ∧ w'.cell? p17 = some v17 ∧ w'.cell? p18 = some v18) : Below w.heap.size w w'' ∧ B ≤ w''.heap.size ∧ w''.cell? p0 = some v0 ∧ w''.cell? p1 = some v1 ∧ w''.cell? p2 = some v2 ∧ w''.cell? p3 = some v3 ∧ w''.cell? p4 = some v4 ∧ w''.cell? p5 = some v5 ∧ w''.cell? p6 = some v6 ∧ w''.cell? p7 = some v7 ∧ w''.cell? p8 = some v8 ∧ w''.cell? p9 = some v9 ∧ w''.cell? p10 = some v10 ∧ w''.cell? p11 = some v11 ∧ w''.cell? p12 = some v12 ∧ w''.cell? p13 = some v13 ∧ w''.cell? p14 = some v14 ∧ w''.cell? p15 = some v15 ∧ w''.cell? p16 = some v16 ∧ w''.cell? p17 = some v17 ∧ w''.cell? p18 = some v18 := by
  obtain ⟨hb, hs, c0, c1, c2, c3, c4, c5, c6, c7, c8, c9, c10, c11, c12, c13, c14, c15, c16, c17, c18⟩ := h
  exact ⟨below_trans hb hB, Nat.le_trans hs hB.size, (hB.cell (Nat.lt_of_lt_of_le h0 hs)).trans c0, (hB.cell (Nat.lt_of_lt_of_le h1 hs)).trans c1, (hB.cell (Nat.lt_of_lt_of_le h2 hs)).trans c2, (hB.cell (Nat.lt_of_lt_of_le h3 hs)).trans c3, (hB.cell (Nat.lt_of_lt_of_le h4 hs)).trans c4, (hB.cell (Nat.lt_of_lt_of_le h5 hs)).trans c5, (hB.cell (Nat.lt_of_lt_of_le h6 hs)).trans c6, (hB.cell (Nat.lt_of_lt_of_le h7 hs)).trans c7, (hB.cell (Nat.lt_of_lt_of_le h8 hs)).trans c8, (hB.cell (Nat.lt_of_lt_of_le h9 hs)).trans c9, (hB.cell (Nat.lt_of_lt_of_le h10 hs)).trans c10, (hB.cell (Nat.lt_of_lt_of_le h11 hs)).trans c11, (hB.cell (Nat.lt_of_lt_of_le h12 hs)).trans c12, (hB.cell (Nat.lt_of_lt_of_le h13 hs)).trans c13, (hB.cell (Nat.lt_of_lt_of_le h14 hs)).trans c14, (hB.cell (Nat.lt_of_lt_of_le h15 hs)).trans c15, (hB.cell (Nat.lt_of_lt_of_le h16 hs)).trans c16, (hB.cell (Nat.lt_of_lt_of_le h17 hs)).trans c17, (hB.cell (Nat.lt_of_lt_of_le h18 hs)).trans c18⟩
theorem hold_below {w w' : World} {B : Nat} {R : Prop} (h : Below w.heap.size w w' ∧ B ≤ w'.heap.size ∧ R) : Below w.heap.size w w' := h.1
end Go.Proofs.Ytmlfkledhnlkeaa

/- Laws for slices that the call itself grows or makes: append of one element, of a whole list; make. Over any program. -/
namespace Go.Proofs.Ytmlfkledhnlkeaa
set_option linter.unusedVariables false
set_option linter.unusedSimpArgs false
open Go.ChangeShapes Go.WideShapes Go.ChangeAt Go.RowKit

/-- what the program's table says of a slice type t of elements e: zero z, k cells, so many bytes -/
structure ElemOk (P : Program) (t e : TypeId) (z : Value) (k bytes : Nat) : Prop where
  und : P.underlying t = some (.slice e)
  info : (P.info? e).map (fun i => (i.zero, i.size, i.bytes)) = some (some z, k, bytes)
  zc : z.cells.size = k
  pos : 0 < k

section
variable {P : Program} {w : World}
theorem own_below {base : Nat} {w' : World} {e : TypeId} {k n : Nat} {v : Value} {cs : List Value} (h : w.ownsRow base e k v n cs) (hb : base ≤ w.heap.size) (hg : w.grownBy w' v.ownBlock) : Below base w w' :=
  (Below.refl _ _).grown hg hb (fun g hg => (h.lt g hg).1)

/-- append(s, x): the one element was laid in a block of its own first -/
theorem wpList_append1 {α : Type} (E : α → List Value) {ops : Array Oper} {rest : List Oper} {o : Oper} {a : Act} {Q : Exit → Act → World → Prop} {t e : TypeId} {z : Value} {k bytes : Nat} (el : ElemOk P t e z k bytes)
    (hgd : o.guard = none) (s y : Operand) (ho : o.op = .call { callee := .builtin .append, args := #[s, y], argTypes := #[t, t] })
    (base : Nat) (v : Value) (xs : List α) (x : α) (cs : Array Value) (c H : Nat) (hs : a.eval s = v) (hown : w.ownsRow base e k v xs.length (xs.flatMap E)) (hy : a.eval y = .slice (some ⟨H, 0, none⟩) 1 c) (hH : H = w.heap.size)
    (hcs : cs = (E x).toArray) (hE : (E x).length = k) (h1 : ∀ u ∈ E x, u.oneCell' = true) (hbytes : (xs.length + 1) * bytes ≤ 140737488355328) (hb0 : 0 < bytes) (hbase : base ≤ w.heap.size)
    (h : ∀ v' w', w'.ownsRow base e k v' (xs ++ [x]).length ((xs ++ [x]).flatMap E) → Below base w w' → (v'.ownBlock = v.ownBlock ∨ ∃ g, v'.ownBlock = some g ∧ w.heap.size ≤ g) → (w.alloc (.cells cs e)).grownBy w' v.ownBlock → wpList P ops Q rest (a.put o.dst v') w') :
    wpList P ops Q (o :: rest) a (w.alloc (.cells cs e)) := by
  subst hcs hH
  obtain ⟨i, hi, hz0, hz1, hz2⟩ := info_parts el.info
  have hlen : xs.length + 1 ≤ 140737488355328 := Nat.le_trans (Nat.le_mul_of_pos_right _ hb0) hbytes
  refine wpList_append_own_at (P := P) (w := w.alloc (.cells (E x).toArray e)) hgd s y t ho base e i z k bytes el.und hi hz0 hz1 hz2 el.zc el.pos v xs.length (xs.flatMap E) hs (hown.alloc _) ⟨w.heap.size, 0, none⟩ 1 c (E x) hy (by rw [hE, Nat.one_mul])
    (fun j u hu => ?_) h1 (by unfold maxLen; omega) hbytes (by simp; omega) ?_
  · have hadd : (⟨w.heap.size, 0, none⟩ : Addr).add j = ⟨w.heap.size, j, none⟩ := by unfold Addr.add; split <;> simp_all
    rw [hadd, World.cell?_alloc_new]
    simpa using hu
  · intro v' w' h2 h3 _ h5
    refine h v' w' (by simpa using h2) ((((Below.refl base w).alloc hbase _)).trans (own_below (hown.alloc _) (by simp; omega) h3)) ?_ h3
    rcases h5 with h5 | h5
    · exact .inl h5
    · exact .inr ⟨_, h5, by simp⟩

theorem getElem?_flat_replicate {α : Type} {E : α → List Value} {k : Nat} {d : α} (hk : (E d).length = k) : ∀ (n j : Nat), ((List.replicate n d).flatMap E)[j]? = if j < n * k then (E d)[j % k]? else none := by
  intro n
  induction n with
  | zero => intro j; simp
  | succ n ih =>
    intro j
    rw [List.replicate_succ, List.flatMap_cons, List.getElem?_append, hk]
    by_cases hj : j < k
    · rw [if_pos hj, if_pos (by rw [Nat.succ_mul]; omega), Nat.mod_eq_of_lt hj]
    · rw [if_neg hj, ih, Nat.succ_mul]
      by_cases h2 : j < n * k + k
      · rw [if_pos h2, if_pos (by omega)]
        congr 1
        conv => rhs; rw [show j = (j - k) + k by omega, Nat.add_mod_right]
      · rw [if_neg h2, if_neg (by omega)]

theorem madeCells_flat {α : Type} {E : α → List Value} {k : Nat} {d : α} {z : Array Value} (hk : (E d).length = k) (hz : z.toList = E d) (hpos : 0 < k) (n : Nat) : (madeCells z (n * k)).toList = (List.replicate n d).flatMap E := by
  apply List.ext_getElem?
  intro j
  rw [getElem?_flat_replicate hk]
  have hzs : z.size = k := by rw [← Array.length_toList, hz, hk]
  by_cases hj : j < n * k
  · rw [if_pos hj]
    have hm : j % k < z.size := by rw [hzs]; exact Nat.mod_lt _ hpos
    have : (E d)[j % k]? = z[j % k]? := by rw [← hz, Array.getElem?_toList]
    rw [this]
    simp [madeCells, hj, hzs, hm, Nat.mod_lt _ hpos]
  · rw [if_neg hj]
    simp [madeCells, hj]

/-- make([]T, n): n zero elements -/
theorem run_makeE {α : Type} (E : α → List Value) (d : α) {t e : TypeId} {z : Value} {k bytes : Nat} (el : ElemOk P t e z k bytes) (hz : z.cells.toList = E d) (hE : (E d).length = k) (n : Nat) (hbytes : bytes * n ≤ 281474976710656) (h63 : n ≤ maxLen) (w : World) :
    ∃ w', (Instr.makeSlice t (.int .i64 (n : Int)) (.int .i64 (n : Int))).run P w = .ok (.slice (some ⟨w.heap.size, 0, none⟩) n n) w' ∧
      w'.ownsRow w.heap.size e k (.slice (some ⟨w.heap.size, 0, none⟩) n n) n ((List.replicate n d).flatMap E) ∧ Below w.heap.size w w' ∧ w'.heap.size = w.heap.size + 1 := by
  obtain ⟨i, hi, hz0, hz1, hz2⟩ := info_parts el.info
  subst hz1 hz2
  have h63' : (n : Int) ≤ 9223372036854775807 := by
    have h := h63
    simp [maxLen] at h
    omega
  have hb' : (i.bytes : Int) * (n : Int) ≤ 281474976710656 := by
    have h : ((i.bytes * n : Nat) : Int) ≤ 281474976710656 := by omega
    rwa [Int.natCast_mul] at h
  have hr := run_make (P := P) w t e i z el.und hi hz0 .i64 .i64 n n (by omega) (Int.le_refl _) hb' h63'
  simp only [Int.toNat_natCast] at hr
  refine ⟨_, hr, ?_, (Below.refl _ _).alloc (Nat.le_refl _) _, by simp⟩
  rw [← madeCells_flat hE hz el.pos n]
  exact World.ownsRow_lit w _ n (Nat.le_refl _) h63 (size_madeCells _ _)
theorem ownsRow_below {lo k n : Nat} {e : TypeId} {v : Value} {cs : List Value} {w w' : World} (h : w.ownsRow lo e k v n cs) {B : Nat} (hb : Below B w w') (hB : w.heap.size ≤ B) : w'.ownsRow lo e k v n cs := by
  have hlt := h.lt
  obtain ⟨hl, hs⟩ := h
  refine ⟨hl, ?_⟩
  rcases hs with hs | ⟨g, cap, cur, rfl, hg, hh, r⟩
  · exact .inl hs
  · exact .inr ⟨g, cap, cur, rfl, hg, (hb.block g (by have := hlt g rfl; omega)).trans hh, r⟩

theorem ownsRow_below' {lo k n m cap g : Nat} {e : TypeId} {cs : List Value} {w w' : World} (h : w.ownsRow lo e k (.slice (some ⟨g, 0, none⟩) m cap) n cs) {B : Nat} (hb : Below B w w') (hB : g < B) : w'.ownsRow lo e k (.slice (some ⟨g, 0, none⟩) m cap) n cs := by
  obtain ⟨hl, hs⟩ := h
  refine ⟨hl, ?_⟩
  rcases hs with ⟨h1, _⟩ | ⟨g', cap', cur, hv, hg, hh, r⟩
  · cases h1
  · have he : g' = g := by injection hv with h1; injection h1 with h1; injection h1 with h1; exact h1.symm
    subst he
    exact .inr ⟨g', cap', cur, hv, hg, (hb.block g' hB).trans hh, r⟩

theorem wpList_makeE {α : Type} (E : α → List Value) (d : α) {ops : Array Oper} {rest : List Oper} {o : Oper} {a : Act} {Q : Exit → Act → World → Prop} {t e : TypeId} {z : Value} {k bytes : Nat} (el : ElemOk P t e z k bytes) (hz : z.cells.toList = E d) (hE : (E d).length = k)
    (hgd : o.guard = none) (l c : Operand) (hop : o.op = Op.makeSlice t l c) (base n : Nat) (N : Int) (hl : a.eval l = .int .i64 N) (hc : a.eval c = .int .i64 N) (hN : N = (n : Int)) (hbytes : bytes * n ≤ 281474976710656) (h63 : n ≤ maxLen) (hb : base ≤ w.heap.size)
    (hK : ∀ w', w'.ownsRow base e k (.slice (some ⟨w.heap.size, 0, none⟩) n n) n ((List.replicate n d).flatMap E) → Below w.heap.size w w' → wpList P ops Q rest (a.put o.dst (.slice (some ⟨w.heap.size, 0, none⟩) n n)) w') :
    wpList P ops Q (o :: rest) a w := by
  subst hN
  refine wpList_plain hgd fun K hK' => ?_
  obtain ⟨w', hrun, r1, r2, _⟩ := run_makeE E d el hz hE n hbytes h63 w
  unfold Oper.wp
  simp [execOp, hop, hl, hc, hrun, Result.andThen]
  refine hK' _ _ (hK w' ?_ r2)
  obtain ⟨hl, hs⟩ := r1
  refine ⟨hl, ?_⟩
  rcases hs with hs | ⟨g, cap, cur, hv, hg, hh, r⟩
  · exact .inl hs
  · exact .inr ⟨g, cap, cur, hv, by omega, hh, r⟩
end
end Go.Proofs.Ytmlfkledhnlkeaa

/- A region that draws its order: all operations but the last few are quiet in a class of worlds; the tail comes in one forced order. -/
namespace Go.Proofs.Ytmlfkledhnlkeaa
set_option linter.unusedVariables false
set_option linter.unusedSimpArgs false
open Go.RowKit

section
variable {P : Program} {ops : Array Oper} {md : Region.Mode} {C : World → Prop}

def wpAnyLQ (P : Program) (md : Region.Mode) (ops : Array Oper) (C : World → Prop) (n : Nat) (L : Array Bool → Act → Prop) : Nat → Array Bool → Act → Prop
  | 0, listed, a => L listed a
  | f + 1, listed, a =>
    Region.ready md ops listed ≠ [] ∧ ∀ i ∈ Region.ready md ops listed, i < n ∧ qOp P ops C i (wpAnyLQ P md ops C n L f (listed.setIfInBounds i true)) a

theorem wpAny_of_headQ {n g : Nat} {L : Array Bool → Act → Prop} {Q' : Exit → Act → World → Prop} (hL : ∀ listed a w, C w → L listed a → wpAny P md ops Q' g listed a w) :
    ∀ (f : Nat) (listed : Array Bool) (a : Act) (w : World), C w → wpAnyLQ P md ops C n L f listed a → wpAny P md ops Q' (f + g) listed a w
  | 0, listed, a, w, hw, h => by rw [Nat.zero_add]; exact hL _ _ _ hw h
  | f + 1, listed, a, w, hw, h => by
    rw [show f + 1 + g = (f + g) + 1 by omega]
    exact ⟨fun h0 => absurd h0 h.1, fun i hi => wpOp_of_qOp hw (fun a' w' hw' h' => wpAny_of_headQ hL f _ a' w' hw' h') (h.2 i hi).2⟩

theorem wpAnyLQ_first {n i : Nat} {oi : Oper} {v : Value} {L : Array Bool → Act → Prop} (hi : ops[i]? = some oi) (hsel : ∀ (j : Nat) (o : Oper) cs b, ops[j]? = some o → o.op ≠ .select cs b)
    (hs : Region.sinkB md ops n = true) (hc : Region.chainB md ops n = true) (hn : n < ops.size) (hin : i < n)
    (hdone : ∀ listed a, L listed a → ∀ j ∈ Region.ready md ops listed, n ≤ j) :
    ∀ (f : Nat) (listed : Array Bool) (a : Act), HeadInv md ops n listed →
      (∀ j oj, ops[j]? = some oj → j ≠ i → listed.getD j true = false → (∀ e ∈ oj.after, Region.binds md e = true → e.on ≠ i) → oi.apart ops oj = true) →
      i ∈ Region.ready md ops listed → YieldsIn P ops C oi v a →
      wpAnyLQ P md ops C n L f (listed.setIfInBounds i true) (a.put oi.dst v) → wpAnyLQ P md ops C n L (f + 1) listed a := by
  intro f
  induction f with
  | zero =>
    intro listed a inv _ hr hy H
    have hun := (mem_ready.1 hr).1
    refine ⟨fun h => (by rw [h] at hr; cases hr), fun j hj => ?_⟩
    have hjn : j < n := by
      rcases Nat.lt_or_ge j n with h | h
      · exact h
      · exact absurd hj (tail_waits hs hc hn inv _ i rfl hin hun j h)
    refine ⟨hjn, ?_⟩
    by_cases hji : j = i
    · subst hji; exact hy.qOp hi H
    · have := hdone _ _ H j (ready_mono hj hji)
      omega
  | succ f ih =>
    intro listed a inv hfree hr hy H
    have hun := (mem_ready.1 hr).1
    refine ⟨fun h => (by rw [h] at hr; cases hr), fun j hj => ?_⟩
    have hjn : j < n := by
      rcases Nat.lt_or_ge j n with h | h
      · exact h
      · exact absurd hj (tail_waits hs hc hn inv _ i rfl hin hun j h)
    refine ⟨hjn, ?_⟩
    by_cases hji : j = i
    · subst hji; exact hy.qOp hi H
    · have h1 := (H.2 j (ready_mono hj hji)).2
      obtain ⟨hjun, oj, hoj, hall⟩ := mem_ready.1 hj
      have hnot : ∀ e ∈ oj.after, Region.binds md e = true → e.on ≠ i := fun e he hb heq => by
        have h1 := hall e he hb
        rw [heq, getD_both hun] at h1
        cases h1
      have h2 := qOp_put hoj (hfree j oj hoj hji hjun hnot) (fun cs b => hsel i oi cs b hi) (fun cs b => hsel j oj cs b hoj) hy h1
      have hfree' : ∀ k ok, ops[k]? = some ok → k ≠ i → (listed.setIfInBounds j true).getD k true = false →
          (∀ e ∈ ok.after, Region.binds md e = true → e.on ≠ i) → oi.apart ops ok = true := fun k ok hk hki hun hno => by
        refine hfree k ok hk hki ?_ hno
        by_cases hjk : j = k
        · subst hjk; exact hjun
        · rw [getD_set_ne true hjk] at hun; exact hun
      refine qOp_mono (fun a' h3 => ih (listed.setIfInBounds j true) a' (inv.set hj hjn) hfree' (ready_mono hr (Ne.symm hji)) h3.1 ?_) h2
      rw [Array.setIfInBounds_comm _ _ hji]
      exact h3.2

theorem wpAnyLQ_lex {n g : Nat} {Lq : Act → Prop} (hsel : Region.noSelect ops = true) (hs : Region.sinkB md ops n = true) (hc : Region.chainB md ops n = true) (hn : n < ops.size) :
    ∀ (l : List Oper) (k : Nat) (listed : Array Bool) (a : Act), (∀ j, j < l.length → l[j]? = ops[k + j]?) → k + l.length = n → HeadInv md ops n listed →
    Region.lexHead md ops g l.length k listed = true → wpQuiet P ops C Lq l a →
    wpAnyLQ P md ops C n (fun listed' a' => Region.seqB md ops g n listed' = true ∧ Lq a') l.length listed a
  | [], k, listed, a, _, hk, _, hB, h => by
    have : k = n := by simpa using hk
    subst this
    exact ⟨by simpa [Region.lexHead] using hB, h⟩
  | o :: l, k, listed, a, hl, hk, inv, hB, h => by
    have h0 : ops[k]? = some o := by simpa using (hl 0 (by simp)).symm
    simp only [List.length_cons, Region.lexHead, Bool.and_eq_true] at hB
    obtain ⟨⟨hr, hf⟩, hB'⟩ := hB
    have hkn : k < n := by simp only [List.length_cons] at hk; omega
    have hr' : k ∈ Region.ready md ops listed := by simpa using hr
    have hst : qOp P ops C k (wpQuiet P ops C Lq l) a := by unfold qOp; simp only [h0]; exact h
    obtain ⟨v, hy, hK⟩ := yieldsIn_of_qOp h0 hst
    exact wpAnyLQ_first h0 (Region.noSelect_spec hsel) hs hc hn hkn (fun listed' a' hL => seqB_ready hL.1) l.length listed a inv (Region.free_spec h0 hf) hr' hy
      (wpAnyLQ_lex hsel hs hc hn l (k + 1) _ _ (fun j hj => by have := hl (j + 1) (by simp; omega); simpa [Nat.add_assoc, Nat.add_comm 1 j] using this) (by simp only [List.length_cons] at hk; omega) (inv.set hr' hkn) hB' hK)

theorem wp_region_quiet_tail {id : Nat} {Q : Exit → Act → World → Prop} {a : Act} {w : World} {l : List Oper} (n : Nat) (hm : P.follows .mixedOrders = true) (hB : Region.lexTailB .any l.toArray n = true) (hC : C { w with drawn := w.drawn + 1 })
    (h : wpQuiet P l.toArray C (fun a' => ∀ w', C w' → wpList P l.toArray Q (l.drop n) a' w') (l.take n) a) : (Code.region id l.toArray true).wp P Q a w := by
  simp only [Region.lexTailB, Bool.and_eq_true, decide_eq_true_eq] at hB
  obtain ⟨⟨⟨⟨hsel, hn⟩, hs⟩, hc⟩, hlex⟩ := hB
  have hn' : n < l.length := by simpa using hn
  have htl : (l.take n).length = n := by simp; omega
  have hdl : (l.drop n).length = l.toArray.size - n := by simp
  have inv0 : HeadInv .any l.toArray n (Array.replicate l.toArray.size false) :=
    ⟨by simp, fun j oj _ hl => (by rw [getD_replicate_false] at hl; cases hl), fun t _ ht => getD_in (by simpa using ht) (getD_replicate_false _ _)⟩
  have H := wpAnyLQ_lex (C := C) (md := .any) (g := l.toArray.size - n) hsel hs hc hn (l.take n) 0 _ a (fun j hj => by
    have hj' : j < n := by rw [htl] at hj; exact hj
    simp [hj']) (by simpa using htl) inv0 (by rw [htl]; exact hlex) h
  refine wp_region_any hm ?_
  have := wpAny_of_headQ (Q' := Q) (g := l.toArray.size - n) (fun listed a' w' hw' hL => by
    have := wpAny_of_seq (md := .any) (Q' := Q) (l.drop n) n listed a' w' (fun j => by simp [List.getElem?_drop]) (by rw [hdl]; exact hL.1) (hL.2 w' hw')
    rwa [hdl] at this) _ _ _ { w with drawn := w.drawn + 1 } hC H
  rw [htl, show n + (l.toArray.size - n) = l.toArray.size by omega] at this
  exact this

theorem wp_region_ext_tail {id : Nat} {Q : Exit → Act → World → Prop} {a : Act} {w : World} {l : List Oper} (n : Nat) (hm : P.follows .mixedOrders = true) (hB : Region.lexTailB .any l.toArray n = true)
    (h : wpQuiet P l.toArray (fun w' => ∃ u, w' = ext w u) (fun a' => ∀ w', (∃ u, w' = ext w u) → wpList P l.toArray Q (l.drop n) a' w') (l.take n) a) : (Code.region id l.toArray true).wp P Q a w :=
  wp_region_quiet_tail (C := fun w' => ∃ u, w' = ext w u) n hm hB (ext_of ⟨rfl, rfl, rfl, Nat.le_refl _, fun _ _ => rfl⟩) h
end
end Go.Proofs.Ytmlfkledhnlkeaa

/- Int in the laws' helpers: equal lists are told equal; marking, looking, copying, measuring. -/
namespace Go.Proofs.Ytmlfkledhnlkeaa
set_option linter.unusedVariables false
set_option linter.unusedSimpArgs false
open Go.ChangeShapes Go.WideShapes Go.ChangeAt Go.RowKit
attribute [local go_sem] ext_cell ext_frozen ext_lt ext_lt1 ext_lt2 ext_lt3 ltn2 ltn3 ltn13 lts1 lts2 lts3

set_option maxHeartbeats 400000 in
theorem eqIntS_same (v1 v2 : Value) (xs : List Int) (w : World) (hv1 : SlE w cI 1 v1 xs) (hv2 : SlE w cI 1 v2 xs) :
    Calls Try.prog 22 #[v1, v2] w fun e w' => e = .returned (.bool true) ∧ Below w.heap.size w w' := by
  obtain ⟨A1, c1, rfl, hl1, hm1, hx1⟩ := hv1
  obtain ⟨A2, c2, rfl, hl2, hm2, hx2⟩ := hv2
  unfold maxLen at hm1 hm2
  go_enter Try.func22, Try.ntmps22
  go_wp2
  go_loopw [5] (fun i wr => ∃ (k : Nat) (u : World), k ≤ xs.length ∧ i = .int .i64 k ∧ wr = ext w u) (fun i _ => xs.length - (intOf i).toNat)
  case atStart => exact ⟨0, w, Nat.zero_le _, rfl, ext_self w⟩
  case round =>
    obtain ⟨k, u, hk, rfl, rfl⟩ := hrel
    by_cases hlt : k < xs.length
    · obtain ⟨b1, o1, rfl, -, hb1, hc1⟩ := hx1 k xs[k] (List.getElem?_eq_getElem hlt)
      obtain ⟨b2, o2, rfl, -, hb2, hc2⟩ := hx2 k xs[k] (List.getElem?_eq_getElem hlt)
      generalize xs[k] = x at hc1 hc2
      have c10 := hc1 0 _ rfl
      have c20 := hc2 0 _ rfl
      simp only [Nat.add_zero, Nat.mul_one] at c10 c20
      clear hc1 hc2 hx1 hx2
      go_wp2
      refine wp_region_ext_lit (by kernel_rfl) (by kernel_rfl) ?_
      repeat (go_big_quiet_step (fail))
      refine wpQuiet_nil ?_
      intro _ hw'
      obtain ⟨u2, hw''⟩ := hw'
      subst hw''
      go_wp2
      go_roundw
      case rel =>
        obtain ⟨y, hy⟩ := ext_ext w u u2
        exact ⟨k + 1, y, by omega, by go_num, hy⟩
      case measure => simp [intOf]; omega
    · go_wp2
      go_ret
      exact ⟨rfl, ext_below _ _⟩
def mkInt (k : Int) (n : Nat) : List Int := (List.range n).map fun (i : Nat) => k + (i : Int)
theorem mkInt_len (k : Int) (n : Nat) : (mkInt k n).length = n := by simp [mkInt]
theorem mkInt_succ (k : Int) (i : Nat) : mkInt k (i + 1) = mkInt k i ++ [k + (i : Int)] := by simp [mkInt, List.range_succ]
theorem mkInt_at (k : Int) {n i : Nat} (h : i < n) : (mkInt k n)[i]? = some (k + (i : Int)) := by simp [mkInt, h]
theorem flatInt_len (l : List Int) : (l.flatMap cI).length = l.length * 1 := by
  induction l with
  | nil => rfl
  | cons x l ih => simp only [List.flatMap_cons, List.length_append, cI_len, ih, List.length_cons]; omega
theorem markInt_step (k : Int) (xs : List Int) (i : Nat) (hi : i < xs.length) :
    (((mkInt k i ++ xs.drop i).flatMap cI).set (i) (.int .i64 (k + (i : Int)))) = (mkInt k (i + 1) ++ xs.drop (i + 1)).flatMap cI := by
  rw [List.drop_eq_getElem_cons hi, mkInt_succ]
  have hl : ((mkInt k i).flatMap cI).length = i := by rw [flatInt_len, mkInt_len]; omega
  simp only [List.flatMap_append, List.flatMap_cons, List.flatMap_nil, List.append_nil, List.append_assoc]
  rw [List.set_append_right _ _ (by omega), hl]
  simp [cI]
set_option maxHeartbeats 4000000 in
theorem markIntS_any (lo hi : Nat) (e : TypeId) (v : Value) (xs : List Int) (k : Int) (w : World) (hv : Own lo hi w e cI 1 v xs) (hk : 0 ≤ k) (hb : k + 1 * xs.length ≤ 4611686018427387904) :
    Calls Try.prog 24 #[v, .int .i64 k] w fun en w' => en = .returned (.int .i64 (k + xs.length)) ∧ Own lo hi w' e cI 1 v (mkInt k xs.length) ∧ Only lo hi w w' := by
  obtain ⟨hr, hlt⟩ := hv
  have hr0 := hr
  obtain ⟨hl, hs⟩ := hr0
  rcases hs with ⟨rfl, hn⟩ | ⟨g, cap, cur, rfl, hg, hh, hnc, hcm, hsz, htk⟩
  · obtain rfl : xs = [] := List.eq_nil_of_length_eq_zero hn
    clear hl hr hn hlt
    go_enter Try.func24, Try.ntmps24
    go_wp2
    go_loopw [1, 5] (fun kk ii wr => kk = .int .i64 k ∧ ii = .int .i64 0 ∧ wr = w) (fun _ _ _ => 0)
    case atStart => exact ⟨rfl, rfl, rfl⟩
    case round =>
      obtain ⟨rfl, rfl, rfl⟩ := hrel
      go_wp2
      go_ret
      exact ⟨by simp, by simpa [mkInt] using Own.nil lo hi wr e cI 1, Only.refl _ _ _⟩
  · have hglt := hlt g rfl
    unfold maxLen at hcm
    have HL := Lib.hid hl
    clear hh htk hsz hlt hl
    go_enter Try.func24, Try.ntmps24
    go_wp2
    go_loopw [1, 5] (fun kk ii wr => ∃ i : Nat, i ≤ xs.length ∧ kk = .int .i64 (k + i) ∧ ii = .int .i64 i ∧ wr.ownsRow lo e 1 (.slice (some ⟨g, 0, none⟩) xs.length cap) xs.length ((mkInt k i ++ xs.drop i).flatMap cI) ∧ Only lo hi w wr) (fun _ ii _ => xs.length - (intOf ii).toNat)
    case atStart => exact ⟨0, Nat.zero_le _, by simp, rfl, by simpa [mkInt] using hr, Only.refl _ _ _⟩
    case round =>
      obtain ⟨i, hi', rfl, rfl, hrow, honly⟩ := hrel
      by_cases hlt : i < xs.length
      · have hrow0 := hrow
        have hc0 := World.ownsRow.cellAt hrow (i) (by omega)
        have hf0 := World.ownsRow.frozenAt hrow (i)
        have hst := (World.ownsRow.stored hrow0 (i) (.int .i64 (k + (i : Int)))).1
        rw [markInt_step k xs i hlt] at hst
        have HST := Lib.hid hst
        have hxi : (mkInt k i ++ xs.drop i)[i]? = some xs[i] := by
          rw [List.getElem?_append_right (by simp [mkInt_len]), mkInt_len]; simp [hlt]
        have hcx0 : ((mkInt k i ++ xs.drop i).flatMap cI)[i]? = some (.int .i64 xs[i]) := by
          have := flat_at cI_len hxi 0 _ rfl
          simpa using this
        rw [hcx0] at hc0
        clear hcx0 hxi hst hrow hrow0 hr
        go_wp2
        go_roundw
        case rel => exact ⟨i + 1, by omega, by go_num, by go_num, HST.out, (honly.setCell (.inl ⟨hg, hglt⟩) _)⟩
        case measure => simp [intOf]; omega
      · obtain rfl : i = xs.length := by omega
        have hown : Own lo hi wr e cI 1 (.slice (some ⟨g, 0, none⟩) xs.length cap) (mkInt k xs.length) := by
          refine ⟨?_, fun g' hg' => by cases hg'; exact hglt⟩
          rw [mkInt_len]
          simpa using hrow
        clear hrow hr
        go_wp2
        go_ret
        exact ⟨rfl, hown, honly⟩
set_option maxHeartbeats 4000000 in
theorem heldIntS_any (v : Value) (n : Nat) (k : Int) (w : World) (hv : SlE w cI 1 v (mkInt k n)) (hk : 0 ≤ k) (hb : k + 1 * n ≤ 4611686018427387904) :
    Calls Try.prog 25 #[v, .int .i64 k] w fun en w' => en = .returned (.int .i64 (k + n)) ∧ Below w.heap.size w w' := by
  obtain ⟨A, c, rfl, hl, hm, hx⟩ := hv
  rw [mkInt_len] at hl
  simp only [mkInt_len]
  unfold maxLen at hm
  go_enter Try.func25, Try.ntmps25
  go_wp2
  go_loopw [1, 5] (fun kk ii wr => ∃ (i : Nat) (u : World), i ≤ n ∧ kk = .int .i64 (k + i) ∧ ii = .int .i64 i ∧ wr = ext w u) (fun _ ii _ => n - (intOf ii).toNat)
  case atStart => exact ⟨0, w, Nat.zero_le _, by simp, rfl, ext_self w⟩
  case round =>
    obtain ⟨i, u, hi', rfl, rfl, rfl⟩ := hrel
    by_cases hlt : i < n
    · obtain ⟨b, o, rfl, -, hb1, hc⟩ := hx i _ (mkInt_at k hlt)
      have c0 := hc 0 _ rfl
      simp only [Nat.add_zero, Nat.mul_one] at c0
      clear hc hx
      go_wp2
      go_roundw
      case rel => exact ⟨i + 1, u, by omega, by go_num, by go_num, rfl⟩
      case measure => simp [intOf]; omega
    · obtain rfl : i = n := by omega
      go_wp2
      go_ret
      exact ⟨rfl, ext_below _ _⟩
theorem szIntS_any (A : Option Addr) (n c : Nat) (left : Int) (w : World) (hn : n ≤ maxLen) (h0 : 0 ≤ left) (h1 : left ≤ 1048576) :
    Calls Try.prog 55 #[.slice A n c, .int .i64 left] w fun e w' => e = .returned (.int .i64 (if left < n then -1 else left - n)) ∧ w' = w := by
  unfold maxLen at hn
  by_cases hlt : left < n
  · rw [if_pos hlt]
    go_enter Try.func55, Try.ntmps55
    go_wp2
    go_ret
    exact ⟨rfl, rfl⟩
  · rw [if_neg hlt]
    go_enter Try.func55, Try.ntmps55
    go_wp2
    go_ret
    exact ⟨rfl, rfl⟩
theorem elInt : ElemOk Try.prog 22 3 (.int .i64 0) 1 8 := ⟨Try.underlying22, by kernel_rfl, rfl, by omega⟩
theorem toInt_step (xs : List Int) (i : Nat) (x : Int) (hx : xs[i]? = some x) :
    (((xs.take i ++ List.replicate (xs.length - i) (0 : Int)).flatMap cI).set (i) (.int .i64 x)) = (xs.take (i + 1) ++ List.replicate (xs.length - (i + 1)) (0 : Int)).flatMap cI := by
  have hi := (List.getElem?_eq_some_iff.1 hx).1
  rw [take_snoc hx, show xs.length - i = (xs.length - (i + 1)) + 1 by omega, List.replicate_succ]
  have hl : ((xs.take i).flatMap cI).length = i := by rw [flatInt_len, List.length_take]; omega
  simp only [List.flatMap_append, List.flatMap_cons, List.flatMap_nil, List.append_nil, List.append_assoc]
  rw [List.set_append_right _ _ (by omega), hl]
  simp [cI]
set_option maxHeartbeats 1000000 in
theorem toIntS_any (v : Value) (xs : List Int) (w : World) (hv : SlE w cI 1 v xs) (hn : xs.length ≤ 1048576) :
    Calls Try.prog 57 #[v] w fun en w' => ∃ v', en = .returned v' ∧ Own w.heap.size w'.heap.size w' 3 cI 1 v' xs ∧ Below w.heap.size w w' := by
  obtain ⟨A, c, rfl, hl, hm, hx⟩ := hv
  go_enter Try.func57, Try.ntmps57
  go_wp2_with (at_make; refine wpList_makeE (P := Try.prog) cI (0 : Int) elInt rfl rfl rfl _ _ rfl w.heap.size xs.length _ (by rfl) (by rfl) rfl (by omega) (by unfold maxLen; omega) (Nat.le_refl _) ?_; intro w1 hrow1 hbel1)
  go_loopw [4] (fun ii wr => ∃ i : Nat, i ≤ xs.length ∧ ii = .int .i64 i ∧ wr.ownsRow w.heap.size 3 1 (.slice (some ⟨w.heap.size, 0, none⟩) xs.length xs.length) xs.length ((xs.take i ++ List.replicate (xs.length - i) (0 : Int)).flatMap cI) ∧ Below w.heap.size w wr) (fun ii _ => xs.length - (intOf ii).toNat)
  case atStart => exact ⟨0, Nat.zero_le _, rfl, by simpa using hrow1, hbel1⟩
  case round =>
    obtain ⟨i, hi', rfl, hrow, hbel⟩ := hrel
    by_cases hlt : i < xs.length
    · have hxi : xs[i]? = some xs[i] := List.getElem?_eq_getElem hlt
      obtain ⟨b, o, rfl, -, hb1, hc⟩ := hx i _ hxi
      have hstep := toInt_step xs i _ hxi
      have hcur : (xs.take i ++ List.replicate (xs.length - i) (0 : Int))[i]? = some (0 : Int) := by
        rw [List.getElem?_append_right (by rw [List.length_take]; omega), List.getElem?_replicate, if_pos (by rw [List.length_take]; omega)]
      generalize xs[i] = x at hc hstep hxi
      have hs := hbel.size
      have c0 := (hbel.cell (p := ⟨b, o + i * 1 + 0, none⟩) hb1).trans (hc 0 _ rfl)
      simp only [Nat.add_zero, Nat.mul_one] at c0
      clear hc hx hxi hrow1 hbel1
      have hrow2 := hrow
      have d0 := World.ownsRow.cellAt hrow2 (i) (by omega)
      have f0 := World.ownsRow.frozenAt hrow2 (i)
      have e0 := flat_at cI_len hcur 0 _ rfl
      simp only [Nat.mul_one, Nat.add_zero] at e0
      rw [e0] at d0
      clear e0
      have hst := (World.ownsRow.stored hrow2 (i) (.int .i64 x)).1
      rw [hstep] at hst
      have HST := Lib.hid hst
      clear hst hstep hcur hrow hrow2
      go_wp2
      go_roundw
      case rel => exact ⟨i + 1, by omega, by go_num, HST.out, (hbel.setCell (Nat.le_refl _) _)⟩
      case measure => simp [intOf]; omega
    · obtain rfl : i = xs.length := by omega
      go_wp2
      go_ret
      exact ⟨_, rfl, Own.of_row hrow rfl (by simp), hbel⟩
end Go.Proofs.Ytmlfkledhnlkeaa

/- Edge in the laws' helpers: equal lists are told equal; marking, looking, copying, measuring. -/
namespace Go.Proofs.Ytmlfkledhnlkeaa
set_option linter.unusedVariables false
set_option linter.unusedSimpArgs false
open Go.ChangeShapes Go.WideShapes Go.ChangeAt Go.RowKit
attribute [local go_sem] ext_cell ext_frozen ext_lt ext_lt1 ext_lt2 ext_lt3 ltn2 ltn3 ltn13 lts1 lts2 lts3

theorem eqEdge_same (p : Ed) (w : World) :
    Calls Try.prog 124 #[.agg #[.int .i64 p.1, .int .i64 p.2.1, .int .i64 p.2.2.1, .int .i64 p.2.2.2], .agg #[.int .i64 p.1, .int .i64 p.2.1, .int .i64 p.2.2.1, .int .i64 p.2.2.2]] w fun e w' => e = .returned (.bool true) ∧ Below w.heap.size w w' := by
  obtain ⟨a0, a1, a2, a3⟩ := p
  go_enter Try.func124, Try.ntmps124
  go_wp2
  go_ret
  refine ⟨rfl, ?_⟩
  repeat (first | exact Below.refl _ _ | refine Below.alloc ?_ (by simp) _)
set_option maxHeartbeats 400000 in
theorem eqEdgeS_same (v1 v2 : Value) (xs : List Ed) (w : World) (hv1 : SlE w cEd 4 v1 xs) (hv2 : SlE w cEd 4 v2 xs) :
    Calls Try.prog 74 #[v1, v2] w fun e w' => e = .returned (.bool true) ∧ Below w.heap.size w w' := by
  obtain ⟨A1, c1, rfl, hl1, hm1, hx1⟩ := hv1
  obtain ⟨A2, c2, rfl, hl2, hm2, hx2⟩ := hv2
  unfold maxLen at hm1 hm2
  go_enter Try.func74, Try.ntmps74
  go_wp2
  go_loopw [5] (fun i wr => ∃ (k : Nat) (u : World), k ≤ xs.length ∧ i = .int .i64 k ∧ wr = ext w u) (fun i _ => xs.length - (intOf i).toNat)
  case atStart => exact ⟨0, w, Nat.zero_le _, rfl, ext_self w⟩
  case round =>
    obtain ⟨k, u, hk, rfl, rfl⟩ := hrel
    by_cases hlt : k < xs.length
    · obtain ⟨b1, o1, rfl, -, hb1, hc1⟩ := hx1 k xs[k] (List.getElem?_eq_getElem hlt)
      obtain ⟨b2, o2, rfl, -, hb2, hc2⟩ := hx2 k xs[k] (List.getElem?_eq_getElem hlt)
      generalize xs[k] = x at hc1 hc2
      have c10 := hc1 0 _ rfl
      have c11 := hc1 1 _ rfl
      have c12 := hc1 2 _ rfl
      have c13 := hc1 3 _ rfl
      have c20 := hc2 0 _ rfl
      have c21 := hc2 1 _ rfl
      have c22 := hc2 2 _ rfl
      have c23 := hc2 3 _ rfl
      simp only [Nat.add_zero] at c10 c20
      clear hc1 hc2 hx1 hx2
      go_wp2
      refine wp_region_ext_lit (by kernel_rfl) (by kernel_rfl) ?_
      repeat (go_big_quiet_step ((go_at_call 124; exact Calls.ext_of (eqEdge_same x _))))
      refine wpQuiet_nil ?_
      intro _ hw'
      obtain ⟨u2, hw''⟩ := hw'
      subst hw''
      go_wp2
      go_roundw
      case rel =>
        obtain ⟨y, hy⟩ := ext_ext w u u2
        exact ⟨k + 1, y, by omega, by go_num, hy⟩
      case measure => simp [intOf]; omega
    · go_wp2
      go_ret
      exact ⟨rfl, ext_below _ _⟩
def mkEdge (k : Int) (n : Nat) : List Ed := (List.range n).map fun (i : Nat) => (k + 4 * (i : Int), k + 4 * (i : Int) + 1, k + 4 * (i : Int) + 1 + 1, k + 4 * (i : Int) + 1 + 1 + 1)
theorem mkEdge_len (k : Int) (n : Nat) : (mkEdge k n).length = n := by simp [mkEdge]
theorem mkEdge_succ (k : Int) (i : Nat) : mkEdge k (i + 1) = mkEdge k i ++ [(k + 4 * (i : Int), k + 4 * (i : Int) + 1, k + 4 * (i : Int) + 1 + 1, k + 4 * (i : Int) + 1 + 1 + 1)] := by simp [mkEdge, List.range_succ]
theorem mkEdge_at (k : Int) {n i : Nat} (h : i < n) : (mkEdge k n)[i]? = some (k + 4 * (i : Int), k + 4 * (i : Int) + 1, k + 4 * (i : Int) + 1 + 1, k + 4 * (i : Int) + 1 + 1 + 1) := by simp [mkEdge, h]
theorem flatEdge_len (l : List Ed) : (l.flatMap cEd).length = l.length * 4 := by
  induction l with
  | nil => rfl
  | cons x l ih => simp only [List.flatMap_cons, List.length_append, cEd_len, ih, List.length_cons]; omega
theorem markEdge_step (k : Int) (xs : List Ed) (i : Nat) (hi : i < xs.length) :
    ((((((mkEdge k i ++ xs.drop i).flatMap cEd).set (i * 4) (.int .i64 (k + 4 * (i : Int)))).set (i * 4 + 1) (.int .i64 (k + 4 * (i : Int) + 1))).set (i * 4 + 2) (.int .i64 (k + 4 * (i : Int) + 1 + 1))).set (i * 4 + 3) (.int .i64 (k + 4 * (i : Int) + 1 + 1 + 1))) = (mkEdge k (i + 1) ++ xs.drop (i + 1)).flatMap cEd := by
  rw [List.drop_eq_getElem_cons hi, mkEdge_succ]
  have hl : ((mkEdge k i).flatMap cEd).length = i * 4 := by rw [flatEdge_len, mkEdge_len]
  simp only [List.flatMap_append, List.flatMap_cons, List.flatMap_nil, List.append_nil, List.append_assoc]
  rw [List.set_append_right _ _ (by omega), List.set_append_right _ _ (by omega), List.set_append_right _ _ (by omega), List.set_append_right _ _ (by omega), hl]
  simp [cEd]
theorem toEdge_any (p : Ed) (w : World) :
    Calls Try.prog 118 #[.agg #[.int .i64 p.1, .int .i64 p.2.1, .int .i64 p.2.2.1, .int .i64 p.2.2.2]] w fun e w' => e = .returned (.agg #[.int .i64 p.1, .int .i64 p.2.1, .int .i64 p.2.2.1, .int .i64 p.2.2.2]) ∧ Below w.heap.size w w' := by
  obtain ⟨a0, a1, a2, a3⟩ := p
  go_enter Try.func118, Try.ntmps118
  go_wp2
  refine bodyPost_ret (v := .agg #[.int .i64 a0, .int .i64 a1, .int .i64 a2, .int .i64 a3]) (by simp [results, Try.results118, go_sem]) rfl ⟨rfl, ?_⟩
  repeat (first | exact Below.refl _ _ | refine Below.setCell ?_ (by simp <;> omega) _ | refine Below.alloc ?_ (by simp <;> omega) _)
theorem szEdgeS_any (A : Option Addr) (n c : Nat) (left : Int) (w : World) (hn : n ≤ maxLen) (h0 : 0 ≤ left) (h1 : left ≤ 1048576) :
    Calls Try.prog 63 #[.slice A n c, .int .i64 left] w fun e w' => e = .returned (.int .i64 (if left < n then -1 else left - n)) ∧ w' = w := by
  unfold maxLen at hn
  by_cases hlt : left < n
  · rw [if_pos hlt]
    go_enter Try.func63, Try.ntmps63
    go_wp2
    go_ret
    exact ⟨rfl, rfl⟩
  · rw [if_neg hlt]
    go_enter Try.func63, Try.ntmps63
    go_wp2
    go_ret
    exact ⟨rfl, rfl⟩
theorem elEdge : ElemOk Try.prog 46 144 (.agg #[.int .i64 0, .int .i64 0, .int .i64 0, .int .i64 0]) 4 32 := ⟨Try.underlying46, by kernel_rfl, rfl, by omega⟩
theorem toEdge_step (xs : List Ed) (i : Nat) (x : Ed) (hx : xs[i]? = some x) :
    ((((((xs.take i ++ List.replicate (xs.length - i) (0, 0, 0, 0)).flatMap cEd).set (i * 4) (.int .i64 x.1)).set (i * 4 + 1) (.int .i64 x.2.1)).set (i * 4 + 2) (.int .i64 x.2.2.1)).set (i * 4 + 3) (.int .i64 x.2.2.2)) = (xs.take (i + 1) ++ List.replicate (xs.length - (i + 1)) (0, 0, 0, 0)).flatMap cEd := by
  have hi := (List.getElem?_eq_some_iff.1 hx).1
  rw [take_snoc hx, show xs.length - i = (xs.length - (i + 1)) + 1 by omega, List.replicate_succ]
  have hl : ((xs.take i).flatMap cEd).length = i * 4 := by rw [flatEdge_len, List.length_take]; congr 1; omega
  simp only [List.flatMap_append, List.flatMap_cons, List.flatMap_nil, List.append_nil, List.append_assoc]
  rw [List.set_append_right _ _ (by omega), List.set_append_right _ _ (by omega), List.set_append_right _ _ (by omega), List.set_append_right _ _ (by omega), hl]
  simp [cEd]
set_option maxHeartbeats 1000000 in
theorem toEdgeS_any (v : Value) (xs : List Ed) (w : World) (hv : SlE w cEd 4 v xs) (hn : xs.length ≤ 1048576) :
    Calls Try.prog 68 #[v] w fun en w' => ∃ v', en = .returned v' ∧ Own w.heap.size w'.heap.size w' 144 cEd 4 v' xs ∧ Below w.heap.size w w' := by
  obtain ⟨A, c, rfl, hl, hm, hx⟩ := hv
  go_enter Try.func68, Try.ntmps68
  go_wp2_with (at_make; refine wpList_makeE (P := Try.prog) cEd (0, 0, 0, 0) elEdge rfl rfl rfl _ _ rfl w.heap.size xs.length _ (by rfl) (by rfl) rfl (by omega) (by unfold maxLen; omega) (Nat.le_refl _) ?_; intro w1 hrow1 hbel1)
  go_loopw [4] (fun ii wr => ∃ i : Nat, i ≤ xs.length ∧ ii = .int .i64 i ∧ wr.ownsRow w.heap.size 144 4 (.slice (some ⟨w.heap.size, 0, none⟩) xs.length xs.length) xs.length ((xs.take i ++ List.replicate (xs.length - i) (0, 0, 0, 0)).flatMap cEd) ∧ Below w.heap.size w wr) (fun ii _ => xs.length - (intOf ii).toNat)
  case atStart => exact ⟨0, Nat.zero_le _, rfl, by simpa using hrow1, hbel1⟩
  case round =>
    obtain ⟨i, hi', rfl, hrow, hbel⟩ := hrel
    by_cases hlt : i < xs.length
    · have hxi : xs[i]? = some xs[i] := List.getElem?_eq_getElem hlt
      obtain ⟨b, o, rfl, -, hb1, hc⟩ := hx i _ hxi
      have hstep := toEdge_step xs i _ hxi
      have hcur : (xs.take i ++ List.replicate (xs.length - i) (0, 0, 0, 0))[i]? = some (0, 0, 0, 0) := by
        rw [List.getElem?_append_right (by rw [List.length_take]; omega), List.getElem?_replicate, if_pos (by rw [List.length_take]; omega)]
      generalize xs[i] = x at hc hstep hxi
      have hs := hbel.size
      have c0 := (hbel.cell (p := ⟨b, o + i * 4 + 0, none⟩) hb1).trans (hc 0 _ rfl)
      have c1 := (hbel.cell (p := ⟨b, o + i * 4 + 1, none⟩) hb1).trans (hc 1 _ rfl)
      have c2 := (hbel.cell (p := ⟨b, o + i * 4 + 2, none⟩) hb1).trans (hc 2 _ rfl)
      have c3 := (hbel.cell (p := ⟨b, o + i * 4 + 3, none⟩) hb1).trans (hc 3 _ rfl)
      simp only [Nat.add_zero] at c0
      clear hc hx hxi hrow1 hbel1
      go_wp2_with fail
      refine (toEdge_any x _).mono ?_; rintro e w2 ⟨rfl, hb2⟩
      have hrow2 := ownsRow_below hrow hb2 (Nat.le_refl _)
      have d0 := World.ownsRow.cellAt hrow2 (i * 4) (by omega)
      have f0 := World.ownsRow.frozenAt hrow2 (i * 4)
      have e0 := flat_at cEd_len hcur 0 _ rfl
      simp only [Nat.add_zero] at e0
      rw [e0] at d0
      clear e0
      have d1 := World.ownsRow.cellAt hrow2 (i * 4 + 1) (by omega)
      have f1 := World.ownsRow.frozenAt hrow2 (i * 4 + 1)
      have e1 := flat_at cEd_len hcur 1 _ rfl
      rw [e1] at d1
      clear e1
      have d2 := World.ownsRow.cellAt hrow2 (i * 4 + 2) (by omega)
      have f2 := World.ownsRow.frozenAt hrow2 (i * 4 + 2)
      have e2 := flat_at cEd_len hcur 2 _ rfl
      rw [e2] at d2
      clear e2
      have d3 := World.ownsRow.cellAt hrow2 (i * 4 + 3) (by omega)
      have f3 := World.ownsRow.frozenAt hrow2 (i * 4 + 3)
      have e3 := flat_at cEd_len hcur 3 _ rfl
      rw [e3] at d3
      clear e3
      have hst := (World.ownsRow.stored (World.ownsRow.stored (World.ownsRow.stored (World.ownsRow.stored hrow2 (i * 4) (.int .i64 x.1)).1 (i * 4 + 1) (.int .i64 x.2.1)).1 (i * 4 + 2) (.int .i64 x.2.2.1)).1 (i * 4 + 3) (.int .i64 x.2.2.2)).1
      rw [hstep] at hst
      have HST := Lib.hid hst
      clear hst hstep hcur hrow hrow2
      go_wp2
      go_roundw
      case rel => exact ⟨i + 1, by omega, by go_num, HST.out, (((((hbel.trans (hb2.mono hs)).setCell (Nat.le_refl _) _).setCell (Nat.le_refl _) _).setCell (Nat.le_refl _) _).setCell (Nat.le_refl _) _)⟩
      case measure => simp [intOf]; omega
    · obtain rfl : i = xs.length := by omega
      go_wp2
      go_ret
      exact ⟨_, rfl, Own.of_row hrow rfl (by simp), hbel⟩
end Go.Proofs.Ytmlfkledhnlkeaa

