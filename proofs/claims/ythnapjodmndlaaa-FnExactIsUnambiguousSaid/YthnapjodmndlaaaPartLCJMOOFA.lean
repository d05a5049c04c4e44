/- Parts of the proof, joined into one text: Hold, Tail, HelpInt, HelpBool, HelpSS, Rows2, Nest. -/
import Derived.Test.YthnapjodmndlaaaPartBGGGGECN
import Derived.StillTail
import Derived.Test.YthnapjodmndlaaaPartKIJKDOCI
import Derived.Deep.RegionHeld3
import Derived.Deep.AppendLies
/- What a drawn region with calls that make memory keeps: a bound on the heap, and the cells named. -/
namespace Go.Proofs.Ythnapjodmndlaaa
set_option linter.unusedVariables false
set_option linter.unusedSimpArgs false
open Go.ChangeShapes Go.WideShapes Go.ChangeAt Go.RowKit

theorem hold1 {w w' w'' : World} {B : Nat} {p0 : Addr} {v0 : Value} (h0 : p0.block < B) (hB : Below w'.heap.size w' w'') (h : Below w.heap.size w w' ∧ B ≤ w'.heap.size ∧ w'.cell? p0 = some v0) : Below w.heap.size w w'' ∧ B ≤ w''.heap.size ∧ w''.cell? p0 = some v0 := by
  obtain ⟨hb, hs, c0⟩ := h
  exact ⟨below_trans hb hB, Nat.le_trans hs hB.size, (hB.cell (Nat.lt_of_lt_of_le h0 hs)).trans c0⟩
theorem hold2 {w w' w'' : World} {B : Nat} {p0 p1 : Addr} {v0 v1 : Value} (h0 : p0.block < B) (h1 : p1.block < B) (hB : Below w'.heap.size w' w'') (h : Below w.heap.size w w' ∧ B ≤ w'.heap.size ∧ w'.cell? p0 = some v0 ∧ w'.cell? p1 = some v1) : Below w.heap.size w w'' ∧ B ≤ w''.heap.size ∧ w''.cell? p0 = some v0 ∧ w''.cell? p1 = some v1 := by
  obtain ⟨hb, hs, c0, c1⟩ := h
  exact ⟨below_trans hb hB, Nat.le_trans hs hB.size, (hB.cell (Nat.lt_of_lt_of_le h0 hs)).trans c0, (hB.cell (Nat.lt_of_lt_of_le h1 hs)).trans c1⟩
theorem hold3 {w w' w'' : World} {B : Nat} {p0 p1 p2 : Addr} {v0 v1 v2 : Value} (h0 : p0.block < B) (h1 : p1.block < B) (h2 : p2.block < B) (hB : Below w'.heap.size w' w'') (h : Below w.heap.size w w' ∧ B ≤ w'.heap.size ∧ w'.cell? p0 = some v0 ∧ w'.cell? p1 = some v1 ∧ w'.cell? p2 = some v2) : Below w.heap.size w w'' ∧ B ≤ w''.heap.size ∧ w''.cell? p0 = some v0 ∧ w''.cell? p1 = some v1 ∧ w''.cell? p2 = some v2 := by
  obtain ⟨hb, hs, c0, c1, c2⟩ := h
  exact ⟨below_trans hb hB, Nat.le_trans hs hB.size, (hB.cell (Nat.lt_of_lt_of_le h0 hs)).trans c0, (hB.cell (Nat.lt_of_lt_of_le h1 hs)).trans c1, (hB.cell (Nat.lt_of_lt_of_le h2 hs)).trans c2⟩
theorem hold4 {w w' w'' : World} {B : Nat} {p0 p1 p2 p3 : Addr} {v0 v1 v2 v3 : Value} (h0 : p0.block < B) (h1 : p1.block < B) (h2 : p2.block < B) (h3 : p3.block < B) (hB : Below w'.heap.size w' w'') (h : Below w.heap.size w w' ∧ B ≤ w'.heap.size ∧ w'.cell? p0 = some v0 ∧ w'.cell? p1 = some v1 ∧ w'.cell? p2 = some v2 ∧ w'.cell? p3 = some v3) : Below w.heap.size w w'' ∧ B ≤ w''.heap.size ∧ w''.cell? p0 = some v0 ∧ w''.cell? p1 = some v1 ∧ w''.cell? p2 = some v2 ∧ w''.cell? p3 = some v3 := by
  obtain ⟨hb, hs, c0, c1, c2, c3⟩ := h
  exact ⟨below_trans hb hB, Nat.le_trans hs hB.size, (hB.cell (Nat.lt_of_lt_of_le h0 hs)).trans c0, (hB.cell (Nat.lt_of_lt_of_le h1 hs)).trans c1, (hB.cell (Nat.lt_of_lt_of_le h2 hs)).trans c2, (hB.cell (Nat.lt_of_lt_of_le h3 hs)).trans c3⟩
theorem hold5 {w w' w'' : World} {B : Nat} {p0 p1 p2 p3 p4 : Addr} {v0 v1 v2 v3 v4 : Value} (h0 : p0.block < B) (h1 : p1.block < B) (h2 : p2.block < B) (h3 : p3.block < B) (h4 : p4.block < B) (hB : Below w'.heap.size w' w'') (h : Below w.heap.size w w' ∧ B ≤ w'.heap.size ∧ w'.cell? p0 = some v0 ∧ w'.cell? p1 = some v1 ∧ w'.cell? p2 = some v2 ∧ w'.cell? p3 = some v3 ∧ w'.cell? p4 = some v4) : Below w.heap.size w w'' ∧ B ≤ w''.heap.size ∧ w''.cell? p0 = some v0 ∧ w''.cell? p1 = some v1 ∧ w''.cell? p2 = some v2 ∧ w''.cell? p3 = some v3 ∧ w''.cell? p4 = some v4 := by
  obtain ⟨hb, hs, c0, c1, c2, c3, c4⟩ := h
  exact ⟨below_trans hb hB, Nat.le_trans hs hB.size, (hB.cell (Nat.lt_of_lt_of_le h0 hs)).trans c0, (hB.cell (Nat.lt_of_lt_of_le h1 hs)).trans c1, (hB.cell (Nat.lt_of_lt_of_le h2 hs)).trans c2, (hB.cell (Nat.lt_of_lt_of_le h3 hs)).trans c3, (hB.cell (Nat.lt_of_lt_of_le h4 hs)).trans c4⟩
theorem hold6 {w w' w'' : World} {B : Nat} {p0 p1 p2 p3 p4 p5 : Addr} {v0 v1 v2 v3 v4 v5 : Value} (h0 : p0.block < B) (h1 : p1.block < B) (h2 : p2.block < B) (h3 : p3.block < B) (h4 : p4.block < B) (h5 : p5.block < B) (hB : Below w'.heap.size w' w'') (h : Below w.heap.size w w' ∧ B ≤ w'.heap.size ∧ w'.cell? p0 = some v0 ∧ w'.cell? p1 = some v1 ∧ w'.cell? p2 = some v2 ∧ w'.cell? p3 = some v3 ∧ w'.cell? p4 = some v4 ∧ w'.cell? p5 = some v5) : Below w.heap.size w w'' ∧ B ≤ w''.heap.size ∧ w''.cell? p0 = some v0 ∧ w''.cell? p1 = some v1 ∧ w''.cell? p2 = some v2 ∧ w''.cell? p3 = some v3 ∧ w''.cell? p4 = some v4 ∧ w''.cell? p5 = some v5 := by
  obtain ⟨hb, hs, c0, c1, c2, c3, c4, c5⟩ := h
  exact ⟨below_trans hb hB, Nat.le_trans hs hB.size, (hB.cell (Nat.lt_of_lt_of_le h0 hs)).trans c0, (hB.cell (Nat.lt_of_lt_of_le h1 hs)).trans c1, (hB.cell (Nat.lt_of_lt_of_le h2 hs)).trans c2, (hB.cell (Nat.lt_of_lt_of_le h3 hs)).trans c3, (hB.cell (Nat.lt_of_lt_of_le h4 hs)).trans c4, (hB.cell (Nat.lt_of_lt_of_le h5 hs)).trans c5⟩
theorem hold7 {w w' w'' : World} {B : Nat} {p0 p1 p2 p3 p4 p5 p6 : Addr} {v0 v1 v2 v3 v4 v5 v6 : Value} (h0 : p0.block < B) (h1 : p1.block < B) (h2 : p2.block < B) (h3 : p3.block < B) (h4 : p4.block < B) (h5 : p5.block < B) (h6 : p6.block < B) (hB : Below w'.heap.size w' w'') (h : Below w.heap.size w w' ∧ B ≤ w'.heap.size ∧ w'.cell? p0 = some v0 ∧ w'.cell? p1 = some v1 ∧ w'.cell? p2 = some v2 ∧ w'.cell? p3 = some v3 ∧ w'.cell? p4 = some v4 ∧ w'.cell? p5 = some v5 ∧ w'.cell? p6 = some v6) : Below w.heap.size w w'' ∧ B ≤ w''.heap.size ∧ w''.cell? p0 = some v0 ∧ w''.cell? p1 = some v1 ∧ w''.cell? p2 = some v2 ∧ w''.cell? p3 = some v3 ∧ w''.cell? p4 = some v4 ∧ w''.cell? p5 = some v5 ∧ w''.cell? p6 = some v6 := by
  obtain ⟨hb, hs, c0, c1, c2, c3, c4, c5, c6⟩ := h
  exact ⟨below_trans hb hB, Nat.le_trans hs hB.size, (hB.cell (Nat.lt_of_lt_of_le h0 hs)).trans c0, (hB.cell (Nat.lt_of_lt_of_le h1 hs)).trans c1, (hB.cell (Nat.lt_of_lt_of_le h2 hs)).trans c2, (hB.cell (Nat.lt_of_lt_of_le h3 hs)).trans c3, (hB.cell (Nat.lt_of_lt_of_le h4 hs)).trans c4, (hB.cell (Nat.lt_of_lt_of_le h5 hs)).trans c5, (hB.cell (Nat.lt_of_lt_of_le h6 hs)).trans c6⟩
theorem hold8 {w w' w'' : World} {B : Nat} {p0 p1 p2 p3 p4 p5 p6 p7 : Addr} {v0 v1 v2 v3 v4 v5 v6 v7 : Value} (h0 : p0.block < B) (h1 : p1.block < B) (h2 : p2.block < B) (h3 : p3.block < B) (h4 : p4.block < B) (h5 : p5.block < B) (h6 : p6.block < B) (h7 : p7.block < B) (hB : Below w'.heap.size w' w'') (h : Below w.heap.size w w' ∧ B ≤ w'.heap.size ∧ w'.cell? p0 = some v0 ∧ w'.cell? p1 = some v1 ∧ w'.cell? p2 = some v2 ∧ w'.cell? p3 = some v3 ∧ w'.cell? p4 = some v4 ∧ w'.cell? p5 = some v5 ∧ w'.cell? p6 = some v6 ∧ w'.cell? p7 = some v7) : Below w.heap.size w w'' ∧ B ≤ w''.heap.size ∧ w''.cell? p0 = some v0 ∧ w''.cell? p1 = some v1 ∧ w''.cell? p2 = some v2 ∧ w''.cell? p3 = some v3 ∧ w''.cell? p4 = some v4 ∧ w''.cell? p5 = some v5 ∧ w''.cell? p6 = some v6 ∧ w''.cell? p7 = some v7 := by
  obtain ⟨hb, hs, c0, c1, c2, c3, c4, c5, c6, c7⟩ := h
  exact ⟨below_trans hb hB, Nat.le_trans hs hB.size, (hB.cell (Nat.lt_of_lt_of_le h0 hs)).trans c0, (hB.cell (Nat.lt_of_lt_of_le h1 hs)).trans c1, (hB.cell (Nat.lt_of_lt_of_le h2 hs)).trans c2, (hB.cell (Nat.lt_of_lt_of_le h3 hs)).trans c3, (hB.cell (Nat.lt_of_lt_of_le h4 hs)).trans c4, (hB.cell (Nat.lt_of_lt_of_le h5 hs)).trans c5, (hB.cell (Nat.lt_of_lt_of_le h6 hs)).trans c6, (hB.cell (Nat.lt_of_lt_of_le h7 hs)).trans c7⟩
theorem hold9 {w w' w'' : World} {B : Nat} {p0 p1 p2 p3 p4 p5 p6 p7 p8 : Addr} {v0 v1 v2 v3 v4 v5 v6 v7 v8 : Value} (h0 : p0.block < B) (h1 : p1.block < B) (h2 : p2.block < B) (h3 : p3.block < B) (h4 : p4.block < B) (h5 : p5.block < B) (h6 : p6.block < B) (h7 : p7.block < B) (h8 : p8.block < B) (hB : Below w'.heap.size w' w'') (h : Below w.heap.size w w' ∧ B ≤ w'.heap.size ∧ w'.cell? p0 = some v0 ∧ w'.cell? p1 = some v1 ∧ w'.cell? p2 = some v2 ∧ w'.cell? p3 = some v3 ∧ w'.cell? p4 = some v4 ∧ w'.cell? p5 = some v5 ∧ w'.cell? p6 = some v6 ∧ w'.cell? p7 = some v7 ∧ w'.cell? p8 = some v8) : Below w.heap.size w w'' ∧ B ≤ w''.heap.size ∧ w''.cell? p0 = some v0 ∧ w''.cell? p1 = some v1 ∧ w''.cell? p2 = some v2 ∧ w''.cell? p3 = some v3 ∧ w''.cell? p4 = some v4 ∧ w''.cell? p5 = some v5 ∧ w''.cell? p6 = some v6 ∧ w''.cell? p7 = some v7 ∧ w''.cell? p8 = some v8 := by
  obtain ⟨hb, hs, c0, c1, c2, c3, c4, c5, c6, c7, c8⟩ := h
  exact ⟨below_trans hb hB, Nat.le_trans hs hB.size, (hB.cell (Nat.lt_of_lt_of_le h0 hs)).trans c0, (hB.cell (Nat.lt_of_lt_of_le h1 hs)).trans c1, (hB.cell (Nat.lt_of_lt_of_le h2 hs)).trans c2, (hB.cell (Nat.lt_of_lt_of_le h3 hs)).trans c3, (hB.cell (Nat.lt_of_lt_of_le h4 hs)).trans c4, (hB.cell (Nat.lt_of_lt_of_le h5 hs)).trans c5, (hB.cell (Nat.lt_of_lt_of_le h6 hs)).trans c6, (hB.cell (Nat.lt_of_lt_of_le h7 hs)).trans c7, (hB.cell (Nat.lt_of_lt_of_le h8 hs)).trans c8⟩
theorem hold10 {w w' w'' : World} {B : Nat} {p0 p1 p2 p3 p4 p5 p6 p7 p8 p9 : Addr} {v0 v1 v2 v3 v4 v5 v6 v7 v8 v9 : Value} (h0 : p0.block < B) (h1 : p1.block < B) (h2 : p2.block < B) (h3 : p3.block < B) (h4 : p4.block < B) (h5 : p5.block < B) (h6 : p6.block < B) (h7 : p7.block < B) (h8 : p8.block < B) (h9 : p9.block < B) (hB : Below w'.heap.size w' w'') (h : Below w.heap.size w w' ∧ B ≤ w'.heap.size ∧ w'.cell? p0 = some v0 ∧ w'.cell? p1 = some v1 ∧ w'.cell? p2 = some v2 ∧ w'.cell? p3 = some v3 ∧ w'.cell? p4 = some v4 ∧ w'.cell? p5 = some v5 ∧ w'.cell? p6 = some v6 ∧ w'.cell? p7 = some v7 ∧ w'.cell? p8 = some v8 ∧ w'.cell? p9 = some v9) : Below w.heap.size w w'' ∧ B ≤ w''.heap.size ∧ w''.cell? p0 = some v0 ∧ w''.cell? p1 = some v1 ∧ w''.cell? p2 = some v2 ∧ w''.cell? p3 = some v3 ∧ w''.cell? p4 = some v4 ∧ w''.cell? p5 = some v5 ∧ w''.cell? p6 = some v6 ∧ w''.cell? p7 = some v7 ∧ w''.cell? p8 = some v8 ∧ w''.cell? p9 = some v9 := by
  obtain ⟨hb, hs, c0, c1, c2, c3, c4, c5, c6, c7, c8, c9⟩ := h
  exact ⟨below_trans hb hB, Nat.le_trans hs hB.size, (hB.cell (Nat.lt_of_lt_of_le h0 hs)).trans c0, (hB.cell (Nat.lt_of_lt_of_le h1 hs)).trans c1, (hB.cell (Nat.lt_of_lt_of_le h2 hs)).trans c2, (hB.cell (Nat.lt_of_lt_of_le h3 hs)).trans c3, (hB.cell (Nat.lt_of_lt_of_le h4 hs)).trans c4, (hB.cell (Nat.lt_of_lt_of_le h5 hs)).trans c5, (hB.cell (Nat.lt_of_lt_of_le h6 hs)).trans c6, (hB.cell (Nat.lt_of_lt_of_le h7 hs)).trans c7, (hB.cell (Nat.lt_of_lt_of_le h8 hs)).trans c8, (hB.cell (Nat.lt_of_lt_of_le h9 hs)).trans c9⟩
theorem hold11 {w w' w'' : World} {B : Nat} {p0 p1 p2 p3 p4 p5 p6 p7 p8 p9 p10 : Addr} {v0 v1 v2 v3 v4 v5 v6 v7 v8 v9 v10 : Value} (h0 : p0.block < B) (h1 : p1.block < B) (h2 : p2.block < B) (h3 : p3.block < B) (h4 : p4.block < B) (h5 : p5.block < B) (h6 : p6.block < B) (h7 : p7.block < B) (h8 : p8.block < B) (h9 : p9.block < B) (h10 : p10.block < B) (hB : Below w'.heap.size w' w'') (h : Below w.heap.size w w' ∧ B ≤ w'.heap.size ∧ w'.cell? p0 = some v0 ∧ w'.cell? p1 = some v1 ∧ w'.cell? p2 = some v2 ∧ w'.cell? p3 = some v3 ∧ w'.cell? p4 = some v4 ∧ w'.cell? p5 = some v5 ∧ w'.cell? p6 = some v6 ∧ w'.cell? p7 = some v7 ∧ w'.cell? p8 = some v8 ∧ w'.cell? p9 = some v9 ∧ w'.cell? p10 = some v10) : Below w.heap.size w w'' ∧ B ≤ w''.heap.size ∧ w''.cell? p0 = some v0 ∧ w''.cell? p1 = some v1 ∧ w''.cell? p2 = some v2 ∧ w''.cell? p3 = some v3 ∧ w''.cell? p4 = some v4 ∧ w''.cell? p5 = some v5 ∧ w''.cell? p6 = some v6 ∧ w''.cell? p7 = some v7 ∧ w''.cell? p8 = some v8 ∧ w''.cell? p9 = some v9 ∧ w''.cell? p10 = some v10 := by
  obtain ⟨hb, hs, c0, c1, c2, c3, c4, c5, c6, c7, c8, c9, c10⟩ := h
  exact ⟨below_trans hb hB, Nat.le_trans hs hB.size, (hB.cell (Nat.lt_of_lt_of_le h0 hs)).trans c0, (hB.cell (Nat.lt_of_lt_of_le h1 hs)).trans c1, (hB.cell (Nat.lt_of_lt_of_le h2 hs)).trans c2, (hB.cell (Nat.lt_of_lt_of_le h3 hs)).trans c3, (hB.cell (Nat.lt_of_lt_of_le h4 hs)).trans c4, (hB.cell (Nat.lt_of_lt_of_le h5 hs)).trans c5, (hB.cell (Nat.lt_of_lt_of_le h6 hs)).trans c6, (hB.cell (Nat.lt_of_lt_of_le h7 hs)).trans c7, (hB.cell (Nat.lt_of_lt_of_le h8 hs)).trans c8, (hB.cell (Nat.lt_of_lt_of_le h9 hs)).trans c9, (hB.cell (Nat.lt_of_lt_of_le h10 hs)).trans c10⟩
theorem hold12 {w w' w'' : World} {B : Nat} {p0 p1 p2 p3 p4 p5 p6 p7 p8 p9 p10 p11 : Addr} {v0 v1 v2 v3 v4 v5 v6 v7 v8 v9 v10 v11 : Value} (h0 : p0.block < B) (h1 : p1.block < B) (h2 : p2.block < B) (h3 : p3.block < B) (h4 : p4.block < B) (h5 : p5.block < B) (h6 : p6.block < B) (h7 : p7.block < B) (h8 : p8.block < B) (h9 : p9.block < B) (h10 : p10.block < B) (h11 : p11.block < B) (hB : Below w'.heap.size w' w'') (h : Below w.heap.size w w' ∧ B ≤ w'.heap.size ∧ w'.cell? p0 = some v0 ∧ w'.cell? p1 = some v1 ∧ w'.cell? p2 = some v2 ∧ w'.cell? p3 = some v3 ∧ w'.cell? p4 = some v4 ∧ w'.cell? p5 = some v5 ∧ w'.cell? p6 = some v6 ∧ w'.cell? p7 = some v7 ∧ w'.cell? p8 = some v8 ∧ w'.cell? p9 = some v9 ∧ w'.cell? p10 = some v10 ∧ w'.cell? p11 = some v11) : Below w.heap.size w w'' ∧ B ≤ w''.heap.size ∧ w''.cell? p0 = some v0 ∧ w''.cell? p1 = some v1 ∧ w''.cell? p2 = some v2 ∧ w''.cell? p3 = some v3 ∧ w''.cell? p4 = some v4 ∧ w''.cell? p5 = some v5 ∧ w''.cell? p6 = some v6 ∧ w''.cell? p7 = some v7 ∧ w''.cell? p8 = some v8 ∧ w''.cell? p9 = some v9 ∧ w''.cell? p10 = some v10 ∧ w''.cell? p11 = some v11 := by
  obtain ⟨hb, hs, c0, c1, c2, c3, c4, c5, c6, c7, c8, c9, c10, c11⟩ := h
  exact ⟨below_trans hb hB, Nat.le_trans hs hB.size, (hB.cell (Nat.lt_of_lt_of_le h0 hs)).trans c0, (hB.cell (Nat.lt_of_lt_of_le h1 hs)).trans c1, (hB.cell (Nat.lt_of_lt_of_le h2 hs)).trans c2, (hB.cell (Nat.lt_of_lt_of_le h3 hs)).trans c3, (hB.cell (Nat.lt_of_lt_of_le h4 hs)).trans c4, (hB.cell (Nat.lt_of_lt_of_le h5 hs)).trans c5, (hB.cell (Nat.lt_of_lt_of_le h6 hs)).trans c6, (hB.cell (Nat.lt_of_lt_of_le h7 hs)).trans c7, (hB.cell (Nat.lt_of_lt_of_le h8 hs)).trans c8, (hB.cell (Nat.lt_of_lt_of_le h9 hs)).trans c9, (hB.cell (Nat.lt_of_lt_of_le h10 hs)).trans c10, (hB.cell (Nat.lt_of_lt_of_le h11 hs)).trans c11⟩
theorem hold13 {w w' w'' : World} {B : Nat} {p0 p1 p2 p3 p4 p5 p6 p7 p8 p9 p10 p11 p12 : Addr} {v0 v1 v2 v3 v4 v5 v6 v7 v8 v9 v10 v11 v12 : Value} (h0 : p0.block < B) (h1 : p1.block < B) (h2 : p2.block < B) (h3 : p3.block < B) (h4 : p4.block < B) (h5 : p5.block < B) (h6 : p6.block < B) (h7 : p7.block < B) (h8 : p8.block < B) (h9 : p9.block < B) (h10 : p10.block < B) (h11 : p11.block < B) (h12 : p12.block < B) (hB : Below w'.heap.size w' w'') (h : Below w.heap.size w w' ∧ B ≤ w'.heap.size ∧ w'.cell? p0 = some v0 ∧ w'.cell? p1 = some v1 ∧ w'.cell? p2 = some v2 ∧ w'.cell? p3 = some v3 ∧ w'.cell? p4 = some v4 ∧ w'.cell? p5 = some v5 ∧ w'.cell? p6 = some v6 ∧ w'.cell? p7 = some v7 ∧ w'.cell? p8 = some v8 ∧ w'.cell? p9 = some v9 ∧ w'.cell? p10 = some v10 ∧ w'.cell? p11 = some v11 ∧ w'.cell? p12 = some v12) : Below w.heap.size w w'' ∧ B ≤ w''.heap.size ∧ w''.cell? p0 = some v0 ∧ w''.cell? p1 = some v1 ∧ w''.cell? p2 = some v2 ∧ w''.cell? p3 = some v3 ∧ w''.cell? p4 = some v4 ∧ w''.cell? p5 = some v5 ∧ w''.cell? p6 = some v6 ∧ w''.cell? p7 = some v7 ∧ w''.cell? p8 = some v8 ∧ w''.cell? p9 = some v9 ∧ w''.cell? p10 = some v10 ∧ w''.cell? p11 = some v11 ∧ w''.cell? p12 = some v12 := by
  obtain ⟨hb, hs, c0, c1, c2, c3, c4, c5, c6, c7, c8, c9, c10, c11, c12⟩ := h
  exact ⟨below_trans hb hB, Nat.le_trans hs hB.size, (hB.cell (Nat.lt_of_lt_of_le h0 hs)).trans c0, (hB.cell (Nat.lt_of_lt_of_le h1 hs)).trans c1, (hB.cell (Nat.lt_of_lt_of_le h2 hs)).trans c2, (hB.cell (Nat.lt_of_lt_of_le h3 hs)).trans c3, (hB.cell (Nat.lt_of_lt_of_le h4 hs)).trans c4, (hB.cell (Nat.lt_of_lt_of_le h5 hs)).trans c5, (hB.cell (Nat.lt_of_lt_of_le h6 hs)).trans c6, (hB.cell (Nat.lt_of_lt_of_le h7 hs)).trans c7, (hB.cell (Nat.lt_of_lt_of_le h8 hs)).trans c8, (hB.cell (Nat.lt_of_lt_of_le h9 hs)).trans c9, (hB.cell (Nat.lt_of_lt_of_le h10 hs)).trans c10, (hB.cell (Nat.lt_of_lt_of_le h11 hs)).trans c11, (hB.cell (Nat.lt_of_lt_of_le h12 hs)).trans c12⟩
theorem hold14 {w w' w'' : World} {B : Nat} {p0 p1 p2 p3 p4 p5 p6 p7 p8 p9 p10 p11 p12 p13 : Addr} {v0 v1 v2 v3 v4 v5 v6 v7 v8 v9 v10 v11 v12 v13 : Value} (h0 : p0.block < B) (h1 : p1.block < B) (h2 : p2.block < B) (h3 : p3.block < B) (h4 : p4.block < B) (h5 : p5.block < B) (h6 : p6.block < B) (h7 : p7.block < B) (h8 : p8.block < B) (h9 : p9.block < B) (h10 : p10.block < B) (h11 : p11.block < B) (h12 : p12.block < B) (h13 : p13.block < B) (hB : Below w'.heap.size w' w'') (h : Below w.heap.size w w' ∧ B ≤ w'.heap.size ∧ w'.cell? p0 = some v0 ∧ w'.cell? p1 = some v1 ∧ w'.cell? p2 = some v2 ∧ w'.cell? p3 = some v3 ∧ w'.cell? p4 = some v4 ∧ w'.cell? p5 = some v5 ∧ w'.cell? p6 = some v6 ∧ w'.cell? p7 = some v7 ∧ w'.cell? p8 = some v8 ∧ w'.cell? p9 = some v9 ∧ w'.cell? p10 = some v10 ∧ w'.cell? p11 = some v11 ∧ w'.cell? p12 = some v12 ∧ w'.cell? p13 = some v13) : Below w.heap.size w w'' ∧ B ≤ w''.heap.size ∧ w''.cell? p0 = some v0 ∧ w''.cell? p1 = some v1 ∧ w''.cell? p2 = some v2 ∧ w''.cell? p3 = some v3 ∧ w''.cell? p4 = some v4 ∧ w''.cell? p5 = some v5 ∧ w''.cell? p6 = some v6 ∧ w''.cell? p7 = some v7 ∧ w''.cell? p8 = some v8 ∧ w''.cell? p9 = some v9 ∧ w''.cell? p10 = some v10 ∧ w''.cell? p11 = some v11 ∧ w''.cell? p12 = some v12 ∧ w''.cell? p13 = some v13 := by
  obtain ⟨hb, hs, c0, c1, c2, c3, c4, c5, c6, c7, c8, c9, c10, c11, c12, c13⟩ := h
  exact ⟨below_trans hb hB, Nat.le_trans hs hB.size, (hB.cell (Nat.lt_of_lt_of_le h0 hs)).trans c0, (hB.cell (Nat.lt_of_lt_of_le h1 hs)).trans c1, (hB.cell (Nat.lt_of_lt_of_le h2 hs)).trans c2, (hB.cell (Nat.lt_of_lt_of_le h3 hs)).trans c3, (hB.cell (Nat.lt_of_lt_of_le h4 hs)).trans c4, (hB.cell (Nat.lt_of_lt_of_le h5 hs)).trans c5, (hB.cell (Nat.lt_of_lt_of_le h6 hs)).trans c6, (hB.cell (Nat.lt_of_lt_of_le h7 hs)).trans c7, (hB.cell (Nat.lt_of_lt_of_le h8 hs)).trans c8, (hB.cell (Nat.lt_of_lt_of_le h9 hs)).trans c9, (hB.cell (Nat.lt_of_lt_of_le h10 hs)).trans c10, (hB.cell (Nat.lt_of_lt_of_le h11 hs)).trans c11, (hB.cell (Nat.lt_of_lt_of_le h12 hs)).trans c12, (hB.cell (Nat.lt_of_lt_of_le h13 hs)).trans c13⟩
theorem hold15 {w w' w'' : World} {B : Nat} {p0 p1 p2 p3 p4 p5 p6 p7 p8 p9 p10 p11 p12 p13 p14 : Addr} {v0 v1 v2 v3 v4 v5 v6 v7 v8 v9 v10 v11 v12 v13 v14 : Value} (h0 : p0.block < B) (h1 : p1.block < B) (h2 : p2.block < B) (h3 : p3.block < B) (h4 : p4.block < B) (h5 : p5.block < B) (h6 : p6.block < B) (h7 : p7.block < B) (h8 : p8.block < B) (h9 : p9.block < B) (h10 : p10.block < B) (h11 : p11.block < B) (h12 : p12.block < B) (h13 : p13.block < B) (h14 : p14.block < B) (hB : Below w'.heap.size w' w'') (h : Below w.heap.size w w' ∧ B ≤ w'.heap.size ∧ w'.cell? p0 = some v0 ∧ w'.cell? p1 = some v1 ∧ w'.cell? p2 = some v2 ∧ w'.cell? p3 = some v3 ∧ w'.cell? p4 = some v4 ∧ w'.cell? p5 = some v5 ∧ w'.cell? p6 = some v6 ∧ w'.cell? p7 = some v7 ∧ w'.cell? p8 = some v8 ∧ w'.cell? p9 = some v9 ∧ w'.cell? p10 = some v10 ∧ w'.cell? p11 = some v11 ∧ w'.cell? p12 = some v12 ∧ w'.cell? p13 = some v13 ∧ w'.cell? p14 = some v14) : Below w.heap.size w w'' ∧ B ≤ w''.heap.size ∧ w''.cell? p0 = some v0 ∧ w''.cell? p1 = some v1 ∧ w''.cell? p2 = some v2 ∧ w''.cell? p3 = some v3 ∧ w''.cell? p4 = some v4 ∧ w''.cell? p5 = some v5 ∧ w''.cell? p6 = some v6 ∧ w''.cell? p7 = some v7 ∧ w''.cell? p8 = some v8 ∧ w''.cell? p9 = some v9 ∧ w''.cell? p10 = some v10 ∧ w''.cell? p11 = some v11 ∧ w''.cell? p12 = some v12 ∧ w''.cell? p13 = some v13 ∧ w''.cell? p14 = some v14 := by
  obtain ⟨hb, hs, c0, c1, c2, c3, c4, c5, c6, c7, c8, c9, c10, c11, c12, c13, c14⟩ := h
  exact ⟨below_trans hb hB, Nat.le_trans hs hB.size, (hB.cell (Nat.lt_of_lt_of_le h0 hs)).trans c0, (hB.cell (Nat.lt_of_lt_of_le h1 hs)).trans c1, (hB.cell (Nat.lt_of_lt_of_le h2 hs)).trans c2, (hB.cell (Nat.lt_of_lt_of_le h3 hs)).trans c3, (hB.cell (Nat.lt_of_lt_of_le h4 hs)).trans c4, (hB.cell (Nat.lt_of_lt_of_le h5 hs)).trans c5, (hB.cell (Nat.lt_of_lt_of_le h6 hs)).trans c6, (hB.cell (Nat.lt_of_lt_of_le h7 hs)).trans c7, (hB.cell (Nat.lt_of_lt_of_le h8 hs)).trans c8, (hB.cell (Nat.lt_of_lt_of_le h9 hs)).trans c9, (hB.cell (Nat.lt_of_lt_of_le h10 hs)).trans c10, (hB.cell (Nat.lt_of_lt_of_le h11 hs)).trans c11, (hB.cell (Nat.lt_of_lt_of_le h12 hs)).trans c12, (hB.cell (Nat.lt_of_lt_of_le h13 hs)).trans c13, (hB.cell (Nat.lt_of_lt_of_le h14 hs)).trans c14⟩
theorem hold16 {w w' w'' : World} {B : Nat} {p0 p1 p2 p3 p4 p5 p6 p7 p8 p9 p10 p11 p12 p13 p14 p15 : Addr} {v0 v1 v2 v3 v4 v5 v6 v7 v8 v9 v10 v11 v12 v13 v14 v15 : Value} (h0 : p0.block < B) (h1 : p1.block < B) (h2 : p2.block < B) (h3 : p3.block < B) (h4 : p4.block < B) (h5 : p5.block < B) (h6 : p6.block < B) (h7 : p7.block < B) (h8 : p8.block < B) (h9 : p9.block < B) (h10 : p10.block < B) (h11 : p11.block < B) (h12 : p12.block < B) (h13 : p13.block < B) (h14 : p14.block < B) (h15 : p15.block < B) (hB : Below w'.heap.size w' w'') (h : Below w.heap.size w w' ∧ B ≤ w'.heap.size ∧ w'.cell? p0 = some v0 ∧ w'.cell? p1 = some v1 ∧ w'.cell? p2 = some v2 ∧ w'.cell? p3 = some v3 ∧ w'.cell? p4 = some v4 ∧ w'.cell? p5 = some v5 ∧ w'.cell? p6 = some v6 ∧ w'.cell? p7 = some v7 ∧ w'.cell? p8 = some v8 ∧ w'.cell? p9 = some v9 ∧ w'.cell? p10 = some v10 ∧ w'.cell? p11 = some v11 ∧ w'.cell? p12 = some v12 ∧ w'.cell? p13 = some v13 ∧ w'.cell? p14 = some v14 ∧ w'.cell? p15 = some v15) : Below w.heap.size w w'' ∧ B ≤ w''.heap.size ∧ w''.cell? p0 = some v0 ∧ w''.cell? p1 = some v1 ∧ w''.cell? p2 = some v2 ∧ w''.cell? p3 = some v3 ∧ w''.cell? p4 = some v4 ∧ w''.cell? p5 = some v5 ∧ w''.cell? p6 = some v6 ∧ w''.cell? p7 = some v7 ∧ w''.cell? p8 = some v8 ∧ w''.cell? p9 = some v9 ∧ w''.cell? p10 = some v10 ∧ w''.cell? p11 = some v11 ∧ w''.cell? p12 = some v12 ∧ w''.cell? p13 = some v13 ∧ w''.cell? p14 = some v14 ∧ w''.cell? p15 = some v15 := by
  obtain ⟨hb, hs, c0, c1, c2, c3, c4, c5, c6, c7, c8, c9, c10, c11, c12, c13, c14, c15⟩ := h
  exact ⟨below_trans hb hB, Nat.le_trans hs hB.size, (hB.cell (Nat.lt_of_lt_of_le h0 hs)).trans c0, (hB.cell (Nat.lt_of_lt_of_le h1 hs)).trans c1, (hB.cell (Nat.lt_of_lt_of_le h2 hs)).trans c2, (hB.cell (Nat.lt_of_lt_of_le h3 hs)).trans c3, (hB.cell (Nat.lt_of_lt_of_le h4 hs)).trans c4, (hB.cell (Nat.lt_of_lt_of_le h5 hs)).trans c5, (hB.cell (Nat.lt_of_lt_of_le h6 hs)).trans c6, (hB.cell (Nat.lt_of_lt_of_le h7 hs)).trans c7, (hB.cell (Nat.lt_of_lt_of_le h8 hs)).trans c8, (hB.cell (Nat.lt_of_lt_of_le h9 hs)).trans c9, (hB.cell (Nat.lt_of_lt_of_le h10 hs)).trans c10, (hB.cell (Nat.lt_of_lt_of_le h11 hs)).trans c11, (hB.cell (Nat.lt_of_lt_of_le h12 hs)).trans c12, (hB.cell (Nat.lt_of_lt_of_le h13 hs)).trans c13, (hB.cell (Nat.lt_of_lt_of_le h14 hs)).trans c14, (hB.cell (Nat.lt_of_lt_of_le h15 hs)).trans c15⟩
theorem hold17 {w w' w'' : World} {B : Nat} {p0 p1 p2 p3 p4 p5 p6 p7 p8 p9 p10 p11 p12 p13 p14 p15 p16 : Addr} {v0 v1 v2 v3 v4 v5 v6 v7 v8 v9 v10 v11 v12 v13 v14 v15 v16 : Value} (h0 : p0.block < B) (h1 : p1.block < B) (h2 : p2.block < B) (h3 : p3.block < B) (h4 : p4.block < B) (h5 : p5.block < B) (h6 : p6.block < B) (h7 : p7.block < B) (h8 : p8.block < B) (h9 : p9.block < B) (h10 : p10.block < B) (h11 : p11.block < B) (h12 : p12.block < B) (h13 : p13.block < B) (h14 : p14.block < B) (h15 : p15.block < B) (h16 : p16.block < B) (hB : Below w'.heap.size w' w'') (h : Below w.heap.size w w' ∧ B ≤ w'.heap.size ∧ w'.cell? p0 = some v0 ∧ w'.cell? p1 = some v1 ∧ w'.cell? p2 = some v2 ∧ w'.cell? p3 = some v3 ∧ w'.cell? p4 = some v4 ∧ w'.cell? p5 = some v5 ∧ w'.cell? p6 = some v6 ∧ w'.cell? p7 = some v7 ∧ w'.cell? p8 = some v8 ∧ w'.cell? p9 = some v9 ∧ w'.cell? p10 = some v10 ∧ w'.cell? p11 = some v11 ∧ w'.cell? p12 = some v12 ∧ w'.cell? p13 = some v13 ∧ w'.cell? p14 = some v14 ∧ w'.cell? p15 = some v15 ∧ w'.cell? p16 = some v16) : Below w.heap.size w w'' ∧ B ≤ w''.heap.size ∧ w''.cell? p0 = some v0 ∧ w''.cell? p1 = some v1 ∧ w''.cell? p2 = some v2 ∧ w''.cell? p3 = some v3 ∧ w''.cell? p4 = some v4 ∧ w''.cell? p5 = some v5 ∧ w''.cell? p6 = some v6 ∧ w''.cell? p7 = some v7 ∧ w''.cell? p8 = some v8 ∧ w''.cell? p9 = some v9 ∧ w''.cell? p10 = some v10 ∧ w''.cell? p11 = some v11 ∧ w''.cell? p12 = some v12 ∧ w''.cell? p13 = some v13 ∧ w''.cell? p14 = some v14 ∧ w''.cell? p15 = some v15 ∧ w''.cell? p16 = some v16 := by
  obtain ⟨hb, hs, c0, c1, c2, c3, c4, c5, c6, c7, c8, c9, c10, c11, c12, c13, c14, c15, c16⟩ := h
  exact ⟨below_trans hb hB, Nat.le_trans hs hB.size, (hB.cell (Nat.lt_of_lt_of_le h0 hs)).trans c0, (hB.cell (Nat.lt_of_lt_of_le h1 hs)).trans c1, (hB.cell (Nat.lt_of_lt_of_le h2 hs)).trans c2, (hB.cell (Nat.lt_of_lt_of_le h3 hs)).trans c3, (hB.cell (Nat.lt_of_lt_of_le h4 hs)).trans c4, (hB.cell (Nat.lt_of_lt_of_le h5 hs)).trans c5, (hB.cell (Nat.lt_of_lt_of_le h6 hs)).trans c6, (hB.cell (Nat.lt_of_lt_of_le h7 hs)).trans c7, (hB.cell (Nat.lt_of_lt_of_le h8 hs)).trans c8, (hB.cell (Nat.lt_of_lt_of_le h9 hs)).trans c9, (hB.cell (Nat.lt_of_lt_of_le h10 hs)).trans c10, (hB.cell (Nat.lt_of_lt_of_le h11 hs)).trans c11, (hB.cell (Nat.lt_of_lt_of_le h12 hs)).trans c12, (hB.cell (Nat.lt_of_lt_of_le h13 hs)).trans c13, (hB.cell (Nat.lt_of_lt_of_le h14 hs)).trans c14, (hB.cell (Nat.lt_of_lt_of_le h15 hs)).trans c15, (hB.cell (Nat.lt_of_lt_of_le h16 hs)).trans c16⟩
theorem hold18 {w w' w'' : World} {B : Nat} {p0 p1 p2 p3 p4 p5 p6 p7 p8 p9 p10 p11 p12 p13 p14 p15 p16 p17 : Addr} {v0 v1 v2 v3 v4 v5 v6 v7 v8 v9 v10 v11 v12 v13 v14 v15 v16 v17 : Value} (h0 : p0.block < B) (h1 : p1.block < B) (h2 : p2.block < B) (h3 : p3.block < B) (h4 : p4.block < B) (h5 : p5.block < B) (h6 : p6.block < B) (h7 : p7.block < B) (h8 : p8.block < B) (h9 : p9.block < B) (h10 : p10.block < B) (h11 : p11.block < B) (h12 : p12.block < B) (h13 : p13.block < B) (h14 : p14.block < B) (h15 : p15.block < B) (h16 : p16.block < B) (h17 : p17.block < B) (hB : Below w'.heap.size w' w'') (h : Below w.heap.size w w' ∧ B ≤ w'.heap.size ∧ w'.cell? p0 = some v0 ∧ w'.cell? p1 = some v1 ∧ w'.cell? p2 = some v2 ∧ w'.cell? p3 = some v3 ∧ w'.cell? p4 = some v4 ∧ w'.cell? p5 = some v5 ∧ w'.cell? p6 = some v6 ∧ w'.cell? p7 = some v7 ∧ w'.cell? p8 = some v8 ∧ w'.cell? p9 = some v9 ∧ w'.cell? p10 = some v10 ∧ w'.cell? p11 = some v11 ∧ w'.cell? p12 = some v12 ∧ w'.cell? p13 = some v13 ∧ w'.cell? p14 = some v14 ∧ w'.cell? p15 = some v15 ∧ w'.cell? p16 = some v16 ∧ w'.cell? p17 = some v17) : Below w.heap.size w w'' ∧ B ≤ w''.heap.size ∧ w''.cell? p0 = some v0 ∧ w''.cell? p1 = some v1 ∧ w''.cell? p2 = some v2 ∧ w''.cell? p3 = some v3 ∧ w''.cell? p4 = some v4 ∧ w''.cell? p5 = some v5 ∧ w''.cell? p6 = some v6 ∧ w''.cell? p7 = some v7 ∧ w''.cell? p8 = some v8 ∧ w''.cell? p9 = some v9 ∧ w''.cell? p10 = some v10 ∧ w''.cell? p11 = some v11 ∧ w''.cell? p12 = some v12 ∧ w''.cell? p13 = some v13 ∧ w''.cell? p14 = some v14 ∧ w''.cell? p15 = some v15 ∧ w''.cell? p16 = some v16 ∧ w''.cell? p17 = some v17 := by
  obtain ⟨hb, hs, c0, c1, c2, c3, c4, c5, c6, c7, c8, c9, c10, c11, c12, c13, c14, c15, c16, c17⟩ := h
  exact ⟨below_trans hb hB, Nat.le_trans hs hB.size, (hB.cell (Nat.lt_of_lt_of_le h0 hs)).trans c0, (hB.cell (Nat.lt_of_lt_of_le h1 hs)).trans c1, (hB.cell (Nat.lt_of_lt_of_le h2 hs)).trans c2, (hB.cell (Nat.lt_of_lt_of_le h3 hs)).trans c3, (hB.cell (Nat.lt_of_lt_of_le h4 hs)).trans c4, (hB.cell (Nat.lt_of_lt_of_le h5 hs)).trans c5, (hB.cell (Nat.lt_of_lt_of_le h6 hs)).trans c6, (hB.cell (Nat.lt_of_lt_of_le h7 hs)).trans c7, (hB.cell (Nat.lt_of_lt_of_le h8 hs)).trans c8, (hB.cell (Nat.lt_of_lt_of_le h9 hs)).trans c9, (hB.cell (Nat.lt_of_lt_of_le h10 hs)).trans c10, (hB.cell (Nat.lt_of_lt_of_le h11 hs)).trans c11, (hB.cell (Nat.lt_of_lt_of_le h12 hs)).trans c12, (hB.cell (Nat.lt_of_lt_of_le h13 hs)).trans c13, (hB.cell (Nat.lt_of_lt_of_le h14 hs)).trans c14, (hB.cell (Nat.lt_of_lt_of_le h15 hs)).trans c15, (hB.cell (Nat.lt_of_lt_of_le h16 hs)).trans c16, (hB.cell (Nat.lt_of_lt_of_le h17 hs)).trans c17⟩
theorem hold19 {w w' w'' : World} {B : Nat} {p0 p1 p2 p3 p4 p5 p6 p7 p8 p9 p10 p11 p12 p13 p14 p15 p16 p17 p18 : Addr} {v0 v1 v2 v3 v4 v5 v6 v7 v8 v9 v10 v11 v12 v13 v14 v15 v16 v17 v18 : Value} (h0 : p0.block < B) (h1 : p1.block < B) (h2 : p2.block < B) (h3 : p3.block < B) (h4 : p4.block < B) (h5 : p5.block < B) (h6 : p6.block < B) (h7 : p7.block < B) (h8 : p8.block < B) (h9 : p9.block < B) (h10 : p10.block < B) (h11 : p11.block < B) (h12 : p12.block < B) (h13 : p13.block < B) (h14 : p14.block < B) (h15 : p15.block < B) (h16 : p16.block < B) (h17 : p17.block < B) (h18 : p18.block < B) (hB : Below w'.heap.size w' w'') (h : Below w.heap.size w w' ∧ B ≤ w'.heap.size ∧ w'.cell? p0 = some v0 ∧ w'.cell? p1 = some v1 ∧ w'.cell? p2 = some v2 ∧ w'.cell? p3 = some v3 ∧ w'.cell? p4 = some v4 ∧ w'.cell? p5 = some v5 ∧ w'.cell? p6 = some v6 ∧ w'.cell? p7 = some v7 ∧ w'.cell? p8 = some v8 ∧ w'.cell? p9 = some v9 ∧ w'.cell? p10 = some v10 ∧ w'.cell? p11 = some v11 ∧ w'.cell? p12 = some v12 ∧ w'.cell? p13 = some v13 ∧ w'.cell? p14 = some v14 ∧ w'.cell? p15 = some v15 ∧ w'.cell? p16 = some v16 ∧ w'.cell? p17 = some v17 ∧ w'.cell? p18 = some v18) : Below w.heap.size w w'' ∧ B ≤ w''.heap.size ∧ w''.cell? p0 = some v0 ∧ w''.cell? p1 = some v1 ∧ w''.cell? p2 = some v2 ∧ w''.cell? p3 = some v3 ∧ w''.cell? p4 = some v4 ∧ w''.cell? p5 = some v5 ∧ w''.cell? p6 = some v6 ∧ w''.cell? p7 = some v7 ∧ w''.cell? p8 = some v8 ∧ w''.cell? p9 = some v9 ∧ w''.cell? p10 = some v10 ∧ w''.cell? p11 = some v11 ∧ w''.cell? p12 = some v12 ∧ w''.cell? p13 = some v13 ∧ w''.cell? p14 = some v14 ∧ w''.cell? p15 = some v15 ∧ w''.cell? p16 = some v16 ∧ w''.cell? p17 = some v17 ∧ w''.cell? p18 = some v18 := by
  obtain ⟨hb, hs, c0, c1, c2, c3, c4, c5, c6, c7, c8, c9, c10, c11, c12, c13, c14, c15, c16, c17, c18⟩ := h
  exact ⟨below_trans hb hB, Nat.le_trans hs hB.size, (hB.cell (Nat.lt_of_lt_of_le h0 hs)).trans c0, (hB.cell (Nat.lt_of_lt_of_le h1 hs)).trans c1, (hB.cell (Nat.lt_of_lt_of_le h2 hs)).trans c2, (hB.cell (Nat.lt_of_lt_of_le h3 hs)).trans c3, (hB.cell (Nat.lt_of_lt_of_le h4 hs)).trans c4, (hB.cell (Nat.lt_of_lt_of_le h5 hs)).trans c5, (hB.cell (Nat.lt_of_lt_of_le h6 hs)).trans c6, (hB.cell (Nat.lt_of_lt_of_le h7 hs)).trans c7, (hB.cell (Nat.lt_of_lt_of_le h8 hs)).trans c8, (hB.cell (Nat.lt_of_lt_of_le h9 hs)).trans c9, (hB.cell (Nat.lt_of_lt_of_le h10 hs)).trans c10, (hB.cell (Nat.lt_of_lt_of_le h11 hs)).trans c11, (hB.cell (Nat.lt_of_lt_of_le h12 hs)).trans c12, (hB.cell (Nat.lt_of_lt_of_le h13 hs)).trans c13, (hB.cell (Nat.lt_of_lt_of_le h14 hs)).trans c14, (hB.cell (Nat.lt_of_lt_of_le h15 hs)).trans c15, (hB.cell (Nat.lt_of_lt_of_le h16 hs)).trans c16, (hB.cell (Nat.lt_of_lt_of_le h17 hs)).trans c17, (hB.cell (Nat.lt_of_lt_of_le h18 hs)).trans c18⟩
theorem hold_below {w w' : World} {B : Nat} {R : Prop} (h : Below w.heap.size w w' ∧ B ≤ w'.heap.size ∧ R) : Below w.heap.size w w' := h.1
end Go.Proofs.Ythnapjodmndlaaa

/- A region that draws its order: all operations but the last few are quiet in a class of worlds; the tail comes in one forced order. -/
namespace Go.Proofs.Ythnapjodmndlaaa
set_option linter.unusedVariables false
set_option linter.unusedSimpArgs false
open Go.RowKit

section
variable {P : Program} {ops : Array Oper} {md : Region.Mode} {C : World → Prop}

def wpAnyLQ (P : Program) (md : Region.Mode) (ops : Array Oper) (C : World → Prop) (n : Nat) (L : Array Bool → Act → Prop) : Nat → Array Bool → Act → Prop
  | 0, listed, a => L listed a
  | f + 1, listed, a =>
    Region.ready md ops listed ≠ [] ∧ ∀ i ∈ Region.ready md ops listed, i < n ∧ qOp P ops C i (wpAnyLQ P md ops C n L f (listed.setIfInBounds i true)) a

theorem wpAny_of_headQ {n g : Nat} {L : Array Bool → Act → Prop} {Q' : Exit → Act → World → Prop} (hL : ∀ listed a w, C w → L listed a → wpAny P md ops Q' g listed a w) :
    ∀ (f : Nat) (listed : Array Bool) (a : Act) (w : World), C w → wpAnyLQ P md ops C n L f listed a → wpAny P md ops Q' (f + g) listed a w
  | 0, listed, a, w, hw, h => by rw [Nat.zero_add]; exact hL _ _ _ hw h
  | f + 1, listed, a, w, hw, h => by
    rw [show f + 1 + g = (f + g) + 1 by omega]
    exact ⟨fun h0 => absurd h0 h.1, fun i hi => wpOp_of_qOp hw (fun a' w' hw' h' => wpAny_of_headQ hL f _ a' w' hw' h') (h.2 i hi).2⟩

theorem wpAnyLQ_first {n i : Nat} {oi : Oper} {v : Value} {L : Array Bool → Act → Prop} (hi : ops[i]? = some oi) (hsel : ∀ (j : Nat) (o : Oper) cs b, ops[j]? = some o → o.op ≠ .select cs b)
    (hs : Region.sinkB md ops n = true) (hc : Region.chainB md ops n = true) (hn : n < ops.size) (hin : i < n)
    (hdone : ∀ listed a, L listed a → ∀ j ∈ Region.ready md ops listed, n ≤ j) :
    ∀ (f : Nat) (listed : Array Bool) (a : Act), HeadInv md ops n listed →
      (∀ j oj, ops[j]? = some oj → j ≠ i → listed.getD j true = false → (∀ e ∈ oj.after, Region.binds md e = true → e.on ≠ i) → oi.apart ops oj = true) →
      i ∈ Region.ready md ops listed → YieldsIn P ops C oi v a →
      wpAnyLQ P md ops C n L f (listed.setIfInBounds i true) (a.put oi.dst v) → wpAnyLQ P md ops C n L (f + 1) listed a := by
  intro f
  induction f with
  | zero =>
    intro listed a inv _ hr hy H
    have hun := (mem_ready.1 hr).1
    refine ⟨fun h => (by rw [h] at hr; cases hr), fun j hj => ?_⟩
    have hjn : j < n := by
      rcases Nat.lt_or_ge j n with h | h
      · exact h
      · exact absurd hj (tail_waits hs hc hn inv _ i rfl hin hun j h)
    refine ⟨hjn, ?_⟩
    by_cases hji : j = i
    · subst hji; exact hy.qOp hi H
    · have := hdone _ _ H j (ready_mono hj hji)
      omega
  | succ f ih =>
    intro listed a inv hfree hr hy H
    have hun := (mem_ready.1 hr).1
    refine ⟨fun h => (by rw [h] at hr; cases hr), fun j hj => ?_⟩
    have hjn : j < n := by
      rcases Nat.lt_or_ge j n with h | h
      · exact h
      · exact absurd hj (tail_waits hs hc hn inv _ i rfl hin hun j h)
    refine ⟨hjn, ?_⟩
    by_cases hji : j = i
    · subst hji; exact hy.qOp hi H
    · have h1 := (H.2 j (ready_mono hj hji)).2
      obtain ⟨hjun, oj, hoj, hall⟩ := mem_ready.1 hj
      have hnot : ∀ e ∈ oj.after, Region.binds md e = true → e.on ≠ i := fun e he hb heq => by
        have h1 := hall e he hb
        rw [heq, getD_both hun] at h1
        cases h1
      have h2 := qOp_put hoj (hfree j oj hoj hji hjun hnot) (fun cs b => hsel i oi cs b hi) (fun cs b => hsel j oj cs b hoj) hy h1
      have hfree' : ∀ k ok, ops[k]? = some ok → k ≠ i → (listed.setIfInBounds j true).getD k true = false →
          (∀ e ∈ ok.after, Region.binds md e = true → e.on ≠ i) → oi.apart ops ok = true := fun k ok hk hki hun hno => by
        refine hfree k ok hk hki ?_ hno
        by_cases hjk : j = k
        · subst hjk; exact hjun
        · rw [getD_set_ne true hjk] at hun; exact hun
      refine qOp_mono (fun a' h3 => ih (listed.setIfInBounds j true) a' (inv.set hj hjn) hfree' (ready_mono hr (Ne.symm hji)) h3.1 ?_) h2
      rw [Array.setIfInBounds_comm _ _ hji]
      exact h3.2

theorem wpAnyLQ_lex {n g : Nat} {Lq : Act → Prop} (hsel : Region.noSelect ops = true) (hs : Region.sinkB md ops n = true) (hc : Region.chainB md ops n = true) (hn : n < ops.size) :
    ∀ (l : List Oper) (k : Nat) (listed : Array Bool) (a : Act), (∀ j, j < l.length → l[j]? = ops[k + j]?) → k + l.length = n → HeadInv md ops n listed →
    Region.lexHead md ops g l.length k listed = true → wpQuiet P ops C Lq l a →
    wpAnyLQ P md ops C n (fun listed' a' => Region.seqB md ops g n listed' = true ∧ Lq a') l.length listed a
  | [], k, listed, a, _, hk, _, hB, h => by
    have : k = n := by simpa using hk
    subst this
    exact ⟨by simpa [Region.lexHead] using hB, h⟩
  | o :: l, k, listed, a, hl, hk, inv, hB, h => by
    have h0 : ops[k]? = some o := by simpa using (hl 0 (by simp)).symm
    simp only [List.length_cons, Region.lexHead, Bool.and_eq_true] at hB
    obtain ⟨⟨hr, hf⟩, hB'⟩ := hB
    have hkn : k < n := by simp only [List.length_cons] at hk; omega
    have hr' : k ∈ Region.ready md ops listed := by simpa using hr
    have hst : qOp P ops C k (wpQuiet P ops C Lq l) a := by unfold qOp; simp only [h0]; exact h
    obtain ⟨v, hy, hK⟩ := yieldsIn_of_qOp h0 hst
    exact wpAnyLQ_first h0 (Region.noSelect_spec hsel) hs hc hn hkn (fun listed' a' hL => seqB_ready hL.1) l.length listed a inv (Region.free_spec h0 hf) hr' hy
      (wpAnyLQ_lex hsel hs hc hn l (k + 1) _ _ (fun j hj => by have := hl (j + 1) (by simp; omega); simpa [Nat.add_assoc, Nat.add_comm 1 j] using this) (by simp only [List.length_cons] at hk; omega) (inv.set hr' hkn) hB' hK)

theorem wp_region_quiet_tail {id : Nat} {Q : Exit → Act → World → Prop} {a : Act} {w : World} {l : List Oper} (n : Nat) (hm : P.follows .mixedOrders = true) (hB : Region.lexTailB .any l.toArray n = true) (hC : C { w with drawn := w.drawn + 1 })
    (h : wpQuiet P l.toArray C (fun a' => ∀ w', C w' → wpList P l.toArray Q (l.drop n) a' w') (l.take n) a) : (Code.region id l.toArray true).wp P Q a w := by
  simp only [Region.lexTailB, Bool.and_eq_true, decide_eq_true_eq] at hB
  obtain ⟨⟨⟨⟨hsel, hn⟩, hs⟩, hc⟩, hlex⟩ := hB
  have hn' : n < l.length := by simpa using hn
  have htl : (l.take n).length = n := by simp; omega
  have hdl : (l.drop n).length = l.toArray.size - n := by simp
  have inv0 : HeadInv .any l.toArray n (Array.replicate l.toArray.size false) :=
    ⟨by simp, fun j oj _ hl => (by rw [getD_replicate_false] at hl; cases hl), fun t _ ht => getD_in (by simpa using ht) (getD_replicate_false _ _)⟩
  have H := wpAnyLQ_lex (C := C) (md := .any) (g := l.toArray.size - n) hsel hs hc hn (l.take n) 0 _ a (fun j hj => by
    have hj' : j < n := by rw [htl] at hj; exact hj
    simp [hj']) (by simpa using htl) inv0 (by rw [htl]; exact hlex) h
  refine wp_region_any hm ?_
  have := wpAny_of_headQ (Q' := Q) (g := l.toArray.size - n) (fun listed a' w' hw' hL => by
    have := wpAny_of_seq (md := .any) (Q' := Q) (l.drop n) n listed a' w' (fun j => by simp [List.getElem?_drop]) (by rw [hdl]; exact hL.1) (hL.2 w' hw')
    rwa [hdl] at this) _ _ _ { w with drawn := w.drawn + 1 } hC H
  rw [htl, show n + (l.toArray.size - n) = l.toArray.size by omega] at this
  exact this

theorem wp_region_ext_tail {id : Nat} {Q : Exit → Act → World → Prop} {a : Act} {w : World} {l : List Oper} (n : Nat) (hm : P.follows .mixedOrders = true) (hB : Region.lexTailB .any l.toArray n = true)
    (h : wpQuiet P l.toArray (fun w' => ∃ u, w' = ext w u) (fun a' => ∀ w', (∃ u, w' = ext w u) → wpList P l.toArray Q (l.drop n) a' w') (l.take n) a) : (Code.region id l.toArray true).wp P Q a w :=
  wp_region_quiet_tail (C := fun w' => ∃ u, w' = ext w u) n hm hB (ext_of ⟨rfl, rfl, rfl, Nat.le_refl _, fun _ _ => rfl⟩) h
end
end Go.Proofs.Ythnapjodmndlaaa

/- Int in the laws' helpers: equal lists are told equal; marking, looking, copying, measuring. -/
namespace Go.Proofs.Ythnapjodmndlaaa
set_option linter.unusedVariables false
set_option linter.unusedSimpArgs false
open Go.ChangeShapes Go.WideShapes Go.ChangeAt Go.RowKit
attribute [local go_sem] ext_cell ext_frozen ext_lt ext_lt1 ext_lt2 ext_lt3 ltn2 ltn3 ltn13 lts1 lts2 lts3

set_option maxHeartbeats 400000 in
theorem eqIntS_same (v1 v2 : Value) (xs : List Int) (w : World) (hv1 : SlE w cI 1 v1 xs) (hv2 : SlE w cI 1 v2 xs) :
    Calls Try.prog 13 #[v1, v2] w fun e w' => e = .returned (.bool true) ∧ Below w.heap.size w w' := by
  obtain ⟨A1, c1, rfl, hl1, hm1, hx1⟩ := hv1
  obtain ⟨A2, c2, rfl, hl2, hm2, hx2⟩ := hv2
  unfold maxLen at hm1 hm2
  go_enter Try.func13, Try.ntmps13
  go_wp2
  go_loopw [5] (fun i wr => ∃ (k : Nat) (u : World), k ≤ xs.length ∧ i = .int .i64 k ∧ wr = ext w u) (fun i _ => xs.length - (intOf i).toNat)
  case atStart => exact ⟨0, w, Nat.zero_le _, rfl, ext_self w⟩
  case round =>
    obtain ⟨k, u, hk, rfl, rfl⟩ := hrel
    by_cases hlt : k < xs.length
    · obtain ⟨b1, o1, rfl, -, hb1, hc1⟩ := hx1 k xs[k] (List.getElem?_eq_getElem hlt)
      obtain ⟨b2, o2, rfl, -, hb2, hc2⟩ := hx2 k xs[k] (List.getElem?_eq_getElem hlt)
      generalize xs[k] = x at hc1 hc2
      have c10 := hc1 0 _ rfl
      have c20 := hc2 0 _ rfl
      simp only [Nat.add_zero, Nat.mul_one] at c10 c20
      clear hc1 hc2 hx1 hx2
      go_wp2
      refine wp_region_ext_lit (by kernel_rfl) (by kernel_rfl) ?_
      repeat (go_big_quiet_step (fail))
      refine wpQuiet_nil ?_
      intro _ hw'
      obtain ⟨u2, hw''⟩ := hw'
      subst hw''
      go_wp2
      go_roundw
      case rel =>
        obtain ⟨y, hy⟩ := ext_ext w u u2
        exact ⟨k + 1, y, by omega, by go_num, hy⟩
      case measure => simp [intOf]; omega
    · go_wp2
      go_ret
      exact ⟨rfl, ext_below _ _⟩
def mkInt (k : Int) (n : Nat) : List Int := (List.range n).map fun (i : Nat) => k + (i : Int)
theorem mkInt_len (k : Int) (n : Nat) : (mkInt k n).length = n := by simp [mkInt]
theorem mkInt_succ (k : Int) (i : Nat) : mkInt k (i + 1) = mkInt k i ++ [k + (i : Int)] := by simp [mkInt, List.range_succ]
theorem mkInt_at (k : Int) {n i : Nat} (h : i < n) : (mkInt k n)[i]? = some (k + (i : Int)) := by simp [mkInt, h]
theorem flatInt_len (l : List Int) : (l.flatMap cI).length = l.length * 1 := by
  induction l with
  | nil => rfl
  | cons x l ih => simp only [List.flatMap_cons, List.length_append, cI_len, ih, List.length_cons]; omega
theorem markInt_step (k : Int) (xs : List Int) (i : Nat) (hi : i < xs.length) :
    (((mkInt k i ++ xs.drop i).flatMap cI).set (i) (.int .i64 (k + (i : Int)))) = (mkInt k (i + 1) ++ xs.drop (i + 1)).flatMap cI := by
  rw [List.drop_eq_getElem_cons hi, mkInt_succ]
  have hl : ((mkInt k i).flatMap cI).length = i := by rw [flatInt_len, mkInt_len]; omega
  simp only [List.flatMap_append, List.flatMap_cons, List.flatMap_nil, List.append_nil, List.append_assoc]
  rw [List.set_append_right _ _ (by omega), hl]
  simp [cI]
set_option maxHeartbeats 4000000 in
theorem markIntS_any (lo hi : Nat) (e : TypeId) (v : Value) (xs : List Int) (k : Int) (w : World) (hv : Own lo hi w e cI 1 v xs) (hk : 0 ≤ k) (hb : k + 1 * xs.length ≤ 4611686018427387904) :
    Calls Try.prog 15 #[v, .int .i64 k] w fun en w' => en = .returned (.int .i64 (k + xs.length)) ∧ Own lo hi w' e cI 1 v (mkInt k xs.length) ∧ Only lo hi w w' := by
  obtain ⟨hr, hlt⟩ := hv
  have hr0 := hr
  obtain ⟨hl, hs⟩ := hr0
  rcases hs with ⟨rfl, hn⟩ | ⟨g, cap, cur, rfl, hg, hh, hnc, hcm, hsz, htk⟩
  · obtain rfl : xs = [] := List.eq_nil_of_length_eq_zero hn
    clear hl hr hn hlt
    go_enter Try.func15, Try.ntmps15
    go_wp2
    go_loopw [1, 5] (fun kk ii wr => kk = .int .i64 k ∧ ii = .int .i64 0 ∧ wr = w) (fun _ _ _ => 0)
    case atStart => exact ⟨rfl, rfl, rfl⟩
    case round =>
      obtain ⟨rfl, rfl, rfl⟩ := hrel
      go_wp2
      go_ret
      exact ⟨by simp, by simpa [mkInt] using Own.nil lo hi wr e cI 1, Only.refl _ _ _⟩
  · have hglt := hlt g rfl
    unfold maxLen at hcm
    have HL := Lib.hid hl
    clear hh htk hsz hlt hl
    go_enter Try.func15, Try.ntmps15
    go_wp2
    go_loopw [1, 5] (fun kk ii wr => ∃ i : Nat, i ≤ xs.length ∧ kk = .int .i64 (k + i) ∧ ii = .int .i64 i ∧ wr.ownsRow lo e 1 (.slice (some ⟨g, 0, none⟩) xs.length cap) xs.length ((mkInt k i ++ xs.drop i).flatMap cI) ∧ Only lo hi w wr) (fun _ ii _ => xs.length - (intOf ii).toNat)
    case atStart => exact ⟨0, Nat.zero_le _, by simp, rfl, by simpa [mkInt] using hr, Only.refl _ _ _⟩
    case round =>
      obtain ⟨i, hi', rfl, rfl, hrow, honly⟩ := hrel
      by_cases hlt : i < xs.length
      · have hrow0 := hrow
        have hc0 := World.ownsRow.cellAt hrow (i) (by omega)
        have hf0 := World.ownsRow.frozenAt hrow (i)
        have hst := (World.ownsRow.stored hrow0 (i) (.int .i64 (k + (i : Int)))).1
        rw [markInt_step k xs i hlt] at hst
        have HST := Lib.hid hst
        have hxi : (mkInt k i ++ xs.drop i)[i]? = some xs[i] := by
          rw [List.getElem?_append_right (by simp [mkInt_len]), mkInt_len]; simp [hlt]
        have hcx0 : ((mkInt k i ++ xs.drop i).flatMap cI)[i]? = some (.int .i64 xs[i]) := by
          have := flat_at cI_len hxi 0 _ rfl
          simpa using this
        rw [hcx0] at hc0
        clear hcx0 hxi hst hrow hrow0 hr
        go_wp2
        go_roundw
        case rel => exact ⟨i + 1, by omega, by go_num, by go_num, HST.out, (honly.setCell (.inl ⟨hg, hglt⟩) _)⟩
        case measure => simp [intOf]; omega
      · obtain rfl : i = xs.length := by omega
        have hown : Own lo hi wr e cI 1 (.slice (some ⟨g, 0, none⟩) xs.length cap) (mkInt k xs.length) := by
          refine ⟨?_, fun g' hg' => by cases hg'; exact hglt⟩
          rw [mkInt_len]
          simpa using hrow
        clear hrow hr
        go_wp2
        go_ret
        exact ⟨rfl, hown, honly⟩
set_option maxHeartbeats 4000000 in
theorem heldIntS_any (v : Value) (n : Nat) (k : Int) (w : World) (hv : SlE w cI 1 v (mkInt k n)) (hk : 0 ≤ k) (hb : k + 1 * n ≤ 4611686018427387904) :
    Calls Try.prog 16 #[v, .int .i64 k] w fun en w' => en = .returned (.int .i64 (k + n)) ∧ Below w.heap.size w w' := by
  obtain ⟨A, c, rfl, hl, hm, hx⟩ := hv
  rw [mkInt_len] at hl
  simp only [mkInt_len]
  unfold maxLen at hm
  go_enter Try.func16, Try.ntmps16
  go_wp2
  go_loopw [1, 5] (fun kk ii wr => ∃ (i : Nat) (u : World), i ≤ n ∧ kk = .int .i64 (k + i) ∧ ii = .int .i64 i ∧ wr = ext w u) (fun _ ii _ => n - (intOf ii).toNat)
  case atStart => exact ⟨0, w, Nat.zero_le _, by simp, rfl, ext_self w⟩
  case round =>
    obtain ⟨i, u, hi', rfl, rfl, rfl⟩ := hrel
    by_cases hlt : i < n
    · obtain ⟨b, o, rfl, -, hb1, hc⟩ := hx i _ (mkInt_at k hlt)
      have c0 := hc 0 _ rfl
      simp only [Nat.add_zero, Nat.mul_one] at c0
      clear hc hx
      go_wp2
      go_roundw
      case rel => exact ⟨i + 1, u, by omega, by go_num, by go_num, rfl⟩
      case measure => simp [intOf]; omega
    · obtain rfl : i = n := by omega
      go_wp2
      go_ret
      exact ⟨rfl, ext_below _ _⟩
theorem szIntS_any (A : Option Addr) (n c : Nat) (left : Int) (w : World) (hn : n ≤ maxLen) (h0 : 0 ≤ left) (h1 : left ≤ 1048576) :
    Calls Try.prog 24 #[.slice A n c, .int .i64 left] w fun e w' => e = .returned (.int .i64 (if left < n then -1 else left - n)) ∧ w' = w := by
  unfold maxLen at hn
  by_cases hlt : left < n
  · rw [if_pos hlt]
    go_enter Try.func24, Try.ntmps24
    go_wp2
    go_ret
    exact ⟨rfl, rfl⟩
  · rw [if_neg hlt]
    go_enter Try.func24, Try.ntmps24
    go_wp2
    go_ret
    exact ⟨rfl, rfl⟩
theorem elInt : ElemOk Try.prog 22 3 (.int .i64 0) 1 8 := ⟨Try.underlying22, by kernel_rfl, rfl, by omega⟩
theorem toInt_step (xs : List Int) (i : Nat) (x : Int) (hx : xs[i]? = some x) :
    (((xs.take i ++ List.replicate (xs.length - i) (0 : Int)).flatMap cI).set (i) (.int .i64 x)) = (xs.take (i + 1) ++ List.replicate (xs.length - (i + 1)) (0 : Int)).flatMap cI := by
  have hi := (List.getElem?_eq_some_iff.1 hx).1
  rw [take_snoc hx, show xs.length - i = (xs.length - (i + 1)) + 1 by omega, List.replicate_succ]
  have hl : ((xs.take i).flatMap cI).length = i := by rw [flatInt_len, List.length_take]; omega
  simp only [List.flatMap_append, List.flatMap_cons, List.flatMap_nil, List.append_nil, List.append_assoc]
  rw [List.set_append_right _ _ (by omega), hl]
  simp [cI]
set_option maxHeartbeats 1000000 in
theorem toIntS_any (v : Value) (xs : List Int) (w : World) (hv : SlE w cI 1 v xs) (hn : xs.length ≤ 1048576) :
    Calls Try.prog 25 #[v] w fun en w' => ∃ v', en = .returned v' ∧ Own w.heap.size w'.heap.size w' 3 cI 1 v' xs ∧ Below w.heap.size w w' := by
  obtain ⟨A, c, rfl, hl, hm, hx⟩ := hv
  go_enter Try.func25, Try.ntmps25
  go_wp2_with (at_make; refine wpList_makeE (P := Try.prog) cI (0 : Int) elInt rfl rfl rfl _ _ rfl w.heap.size xs.length _ (by rfl) (by rfl) rfl (by omega) (by unfold maxLen; omega) (Nat.le_refl _) ?_; intro w1 hrow1 hbel1)
  go_loopw [4] (fun ii wr => ∃ i : Nat, i ≤ xs.length ∧ ii = .int .i64 i ∧ wr.ownsRow w.heap.size 3 1 (.slice (some ⟨w.heap.size, 0, none⟩) xs.length xs.length) xs.length ((xs.take i ++ List.replicate (xs.length - i) (0 : Int)).flatMap cI) ∧ Below w.heap.size w wr) (fun ii _ => xs.length - (intOf ii).toNat)
  case atStart => exact ⟨0, Nat.zero_le _, rfl, by simpa using hrow1, hbel1⟩
  case round =>
    obtain ⟨i, hi', rfl, hrow, hbel⟩ := hrel
    by_cases hlt : i < xs.length
    · have hxi : xs[i]? = some xs[i] := List.getElem?_eq_getElem hlt
      obtain ⟨b, o, rfl, -, hb1, hc⟩ := hx i _ hxi
      have hstep := toInt_step xs i _ hxi
      have hcur : (xs.take i ++ List.replicate (xs.length - i) (0 : Int))[i]? = some (0 : Int) := by
        rw [List.getElem?_append_right (by rw [List.length_take]; omega), List.getElem?_replicate, if_pos (by rw [List.length_take]; omega)]
      generalize xs[i] = x at hc hstep hxi
      have hs := hbel.size
      have c0 := (hbel.cell (p := ⟨b, o + i * 1 + 0, none⟩) hb1).trans (hc 0 _ rfl)
      simp only [Nat.add_zero, Nat.mul_one] at c0
      clear hc hx hxi hrow1 hbel1
      have hrow2 := hrow
      have d0 := World.ownsRow.cellAt hrow2 (i) (by omega)
      have f0 := World.ownsRow.frozenAt hrow2 (i)
      have e0 := flat_at cI_len hcur 0 _ rfl
      simp only [Nat.mul_one, Nat.add_zero] at e0
      rw [e0] at d0
      clear e0
      have hst := (World.ownsRow.stored hrow2 (i) (.int .i64 x)).1
      rw [hstep] at hst
      have HST := Lib.hid hst
      clear hst hstep hcur hrow hrow2
      go_wp2
      go_roundw
      case rel => exact ⟨i + 1, by omega, by go_num, HST.out, (hbel.setCell (Nat.le_refl _) _)⟩
      case measure => simp [intOf]; omega
    · obtain rfl : i = xs.length := by omega
      go_wp2
      go_ret
      exact ⟨_, rfl, Own.of_row hrow rfl (by simp), hbel⟩
end Go.Proofs.Ythnapjodmndlaaa

/- Bool in the laws' helpers: equal lists are told equal; marking, looking, copying, measuring. -/
namespace Go.Proofs.Ythnapjodmndlaaa
set_option linter.unusedVariables false
set_option linter.unusedSimpArgs false
open Go.ChangeShapes Go.WideShapes Go.ChangeAt Go.RowKit
attribute [local go_sem] ext_cell ext_frozen ext_lt ext_lt1 ext_lt2 ext_lt3 ltn2 ltn3 ltn13 lts1 lts2 lts3

def mkBool (k : Int) (n : Nat) : List Bool := (List.range n).map fun (i : Nat) => ((k + (i : Int)) % 3 == 0)
theorem mkBool_len (k : Int) (n : Nat) : (mkBool k n).length = n := by simp [mkBool]
theorem mkBool_succ (k : Int) (i : Nat) : mkBool k (i + 1) = mkBool k i ++ [((k + (i : Int)) % 3 == 0)] := by simp [mkBool, List.range_succ]
theorem mkBool_at (k : Int) {n i : Nat} (h : i < n) : (mkBool k n)[i]? = some (((k + (i : Int)) % 3 == 0)) := by simp [mkBool, h]
theorem flatBool_len (l : List Bool) : (l.flatMap cB).length = l.length * 1 := by
  induction l with
  | nil => rfl
  | cons x l ih => simp only [List.flatMap_cons, List.length_append, cB_len, ih, List.length_cons]; omega
theorem markBool_step (k : Int) (xs : List Bool) (i : Nat) (hi : i < xs.length) :
    (((mkBool k i ++ xs.drop i).flatMap cB).set (i) (.bool (((k + (i : Int)) % 3 == 0)))) = (mkBool k (i + 1) ++ xs.drop (i + 1)).flatMap cB := by
  rw [List.drop_eq_getElem_cons hi, mkBool_succ]
  have hl : ((mkBool k i).flatMap cB).length = i := by rw [flatBool_len, mkBool_len]; omega
  simp only [List.flatMap_append, List.flatMap_cons, List.flatMap_nil, List.append_nil, List.append_assoc]
  rw [List.set_append_right _ _ (by omega), hl]
  simp [cB]
theorem elBool : ElemOk Try.prog 49 4 (.bool false) 1 1 := ⟨Try.underlying49, by kernel_rfl, rfl, by omega⟩
end Go.Proofs.Ythnapjodmndlaaa

/- Slices of slices of numbers and automata in the laws' helpers. -/
namespace Go.Proofs.Ythnapjodmndlaaa
set_option linter.unusedVariables false
set_option linter.unusedSimpArgs false
open Go.ChangeShapes Go.WideShapes Go.ChangeAt Go.RowKit
attribute [local go_sem] ext_cell ext_frozen ext_lt ext_lt1 ext_lt2 ext_lt3 ltn2 ltn3 ltn13 lts1 lts2 lts3

/-- rows of the call's own, one behind the other in memory -/
def RowsO (w : World) : Nat → Nat → List Value → List (List Int) → Prop
  | lo, hi, [], [] => lo ≤ hi
  | lo, hi, u :: us, xs :: xss => ∃ mid, lo ≤ mid ∧ Own lo mid w 3 cI 1 u xs ∧ RowsO w mid hi us xss
  | _, _, _, _ => False
theorem RowsO.le {w : World} : ∀ {us : List Value} {xss : List (List Int)} {lo hi : Nat}, RowsO w lo hi us xss → lo ≤ hi
  | [], [], _, _, h => h
  | _ :: _, _ :: _, _, _, ⟨mid, h1, _, h3⟩ => Nat.le_trans h1 (RowsO.le h3)
  | [], _ :: _, _, _, h => h.elim
  | _ :: _, [], _, _, h => h.elim
theorem RowsO.len {w : World} : ∀ {us : List Value} {xss : List (List Int)} {lo hi : Nat}, RowsO w lo hi us xss → us.length = xss.length
  | [], [], _, _, _ => rfl
  | _ :: _, _ :: _, _, _, ⟨_, _, _, h3⟩ => by simp [RowsO.len h3]
  | [], _ :: _, _, _, h => h.elim
  | _ :: _, [], _, _, h => h.elim
theorem RowsO.below {w w' : World} {B : Nat} (hb : Below B w w') : ∀ {us : List Value} {xss : List (List Int)} {lo hi : Nat}, RowsO w lo hi us xss → hi ≤ B → RowsO w' lo hi us xss
  | [], [], _, _, h, _ => h
  | _ :: _, _ :: _, _, _, ⟨mid, h1, h2, h3⟩, hB => ⟨mid, h1, h2.below hb (Nat.le_trans (RowsO.le h3) hB), RowsO.below hb h3 hB⟩
  | [], _ :: _, _, _, h, _ => h.elim
  | _ :: _, [], _, _, h, _ => h.elim
theorem RowsO.only {w w' : World} {l r : Nat} (hb : Only l r w w') : ∀ {us : List Value} {xss : List (List Int)} {lo hi : Nat}, RowsO w lo hi us xss → (hi ≤ l ∨ r ≤ lo) → RowsO w' lo hi us xss
  | [], [], _, _, h, _ => h
  | _ :: _, _ :: _, lo, hi, ⟨mid, h1, h2, h3⟩, ho => ⟨mid, h1, h2.only hb (by have := RowsO.le h3; omega), RowsO.only hb h3 (by omega)⟩
  | [], _ :: _, _, _, h, _ => h.elim
  | _ :: _, [], _, _, h, _ => h.elim
theorem RowsO.mono {w : World} : ∀ {us : List Value} {xss : List (List Int)} {lo hi lo' hi' : Nat}, RowsO w lo hi us xss → lo' ≤ lo → hi ≤ hi' → RowsO w lo' hi' us xss
  | [], [], _, _, _, _, h, h1, h2 => by simp only [RowsO] at h ⊢; omega
  | _ :: _, _ :: _, _, _, _, _, ⟨mid, h1, h2, h3⟩, g1, g2 => ⟨mid, by omega, h2.mono g1 (Nat.le_refl _), RowsO.mono h3 (Nat.le_refl _) g2⟩
  | [], _ :: _, _, _, _, _, h, _, _ => h.elim
  | _ :: _, [], _, _, _, _, h, _, _ => h.elim
theorem RowsO.snoc {w : World} {u : Value} {xs : List Int} {hi hi' : Nat} (h : Own hi hi' w 3 cI 1 u xs) (hh : hi ≤ hi') : ∀ {us : List Value} {xss : List (List Int)} {lo : Nat}, RowsO w lo hi us xss → RowsO w lo hi' (us ++ [u]) (xss ++ [xs])
  | [], [], _, h0 => ⟨hi', by simp only [RowsO] at h0; omega, h.mono (by simpa [RowsO] using h0) (Nat.le_refl _), Nat.le_refl _⟩
  | _ :: _, _ :: _, _, ⟨mid, h1, h2, h3⟩ => ⟨mid, h1, h2, RowsO.snoc h hh h3⟩
  | [], _ :: _, _, h0 => h0.elim
  | _ :: _, [], _, h0 => h0.elim
theorem RowsO.at_ {w : World} : ∀ {us : List Value} {xss : List (List Int)} {lo hi : Nat}, RowsO w lo hi us xss → ∀ (i : Nat) (u : Value) (xs : List Int), us[i]? = some u → xss[i]? = some xs → SlI lo hi w cI 1 u xs
  | [], [], _, _, _, _, _, _, h, _ => by simp at h
  | _ :: _, _ :: _, _, _, ⟨mid, h1, h2, h3⟩, i, u, xs, hu, hx => by
    cases i with
    | zero =>
      simp only [List.getElem?_cons_zero, Option.some.injEq] at hu hx
      subst hu hx
      exact (h2.sl cI_len).mono (Nat.le_refl _) (RowsO.le h3)
    | succ i => exact (RowsO.at_ h3 i u xs (by simpa using hu) (by simpa using hx)).mono h1 (Nat.le_refl _)
  | [], _ :: _, _, _, h, _, _, _, _, _ => h.elim
  | _ :: _, [], _, _, h, _, _, _, _, _ => h.elim

def SSO (lo hi : Nat) (w : World) (v : Value) (xss : List (List Int)) : Prop :=
  ∃ us mid, Own lo mid w 22 cV 1 v us ∧ RowsO w mid hi us xss ∧ lo ≤ mid
theorem SSO.view {lo hi : Nat} {w : World} {v : Value} {xss : List (List Int)} (h : SSO lo hi w v xss) : SSV lo hi w v xss := by
  obtain ⟨us, mid, h1, h2, h3⟩ := h
  exact ⟨us, (h1.sl cV_len).mono (Nat.le_refl _) h2.le, h2.len, fun i u xs hu hx => (h2.at_ i u xs hu hx).mono h3 (Nat.le_refl _)⟩
theorem SSO.below {lo hi : Nat} {w w' : World} {v : Value} {xss : List (List Int)} (h : SSO lo hi w v xss) {B : Nat} (hb : Below B w w') (hB : hi ≤ B) : SSO lo hi w' v xss := by
  obtain ⟨us, mid, h1, h2, h3⟩ := h
  exact ⟨us, mid, h1.below hb (Nat.le_trans h2.le hB), h2.below hb hB, h3⟩
theorem SSO.only {lo hi : Nat} {w w' : World} {v : Value} {xss : List (List Int)} (h : SSO lo hi w v xss) {l r : Nat} (hb : Only l r w w') (ho : hi ≤ l ∨ r ≤ lo) : SSO lo hi w' v xss := by
  obtain ⟨us, mid, h1, h2, h3⟩ := h
  have := h2.le
  exact ⟨us, mid, h1.only hb (by omega), h2.only hb (by omega), h3⟩
theorem SSO.mono {lo hi : Nat} {w : World} {v : Value} {xss : List (List Int)} (h : SSO lo hi w v xss) {lo' hi' : Nat} (g1 : lo' ≤ lo) (g2 : hi ≤ hi') : SSO lo' hi' w v xss := by
  obtain ⟨us, mid, h1, h2, h3⟩ := h
  exact ⟨us, mid, h1.mono g1 (Nat.le_refl _), h2.mono (Nat.le_refl _) g2, by omega⟩

def AuO (lo hi : Nat) (w : World) (v : Value) (a : Au) : Prop :=
  ∃ ac nx mid, v = .agg #[.int .i64 a.start, ac, nx] ∧ Own lo mid w 4 cB 1 ac a.accept ∧ SSO mid hi w nx a.next ∧ lo ≤ mid ∧ mid ≤ hi
theorem AuO.view {lo hi : Nat} {w : World} {v : Value} {a : Au} (h : AuO lo hi w v a) : AuV lo hi w v a := by
  obtain ⟨ac, nx, mid, rfl, h1, h2, h3, h4⟩ := h
  exact ⟨ac, nx, rfl, (h1.sl cB_len).mono (Nat.le_refl _) h4, h2.view.mono h3 (Nat.le_refl _)⟩
theorem AuO.below {lo hi : Nat} {w w' : World} {v : Value} {a : Au} (h : AuO lo hi w v a) {B : Nat} (hb : Below B w w') (hB : hi ≤ B) : AuO lo hi w' v a := by
  obtain ⟨ac, nx, mid, rfl, h1, h2, h3, h4⟩ := h
  exact ⟨ac, nx, mid, rfl, h1.below hb (by omega), h2.below hb hB, h3, h4⟩

def szRows : Int → List (List Int) → Int
  | left, [] => left
  | left, xs :: r => if left < xs.length then -1 else szRows (left - xs.length) r
def szSS (xss : List (List Int)) (left : Int) : Int := if left < xss.length then -1 else szRows (left - xss.length) xss
def szAu (a : Au) (left : Int) : Int := if left < a.accept.length then -1 else szSS a.next (left - a.accept.length)
theorem szRows_le : ∀ (xss : List (List Int)) (left : Int), 0 ≤ szRows left xss → szRows left xss ≤ left ∧ ∀ xs ∈ xss, (xs.length : Int) ≤ left
  | [], left, h => ⟨Int.le_refl _, by simp⟩
  | xs :: r, left, h => by
    simp only [szRows] at h ⊢
    split at h
    · omega
    · rename_i hlt
      rw [if_neg hlt]
      have := szRows_le r _ h
      refine ⟨by omega, fun ys hy => ?_⟩
      rcases List.mem_cons.1 hy with rfl | hy
      · omega
      · have := this.2 ys hy; omega
theorem szSS_le (xss : List (List Int)) (left : Int) (h : 0 ≤ szSS xss left) : szSS xss left ≤ left ∧ (xss.length : Int) ≤ left ∧ ∀ xs ∈ xss, (xs.length : Int) ≤ left := by
  unfold szSS at h ⊢
  split at h
  · omega
  · rename_i hlt
    rw [if_neg hlt]
    have := szRows_le xss _ h
    exact ⟨by omega, by omega, fun xs hx => by have := this.2 xs hx; omega⟩
theorem szAu_le (a : Au) (left : Int) (h : 0 ≤ szAu a left) : szAu a left ≤ left ∧ (a.accept.length : Int) ≤ left ∧ (a.next.length : Int) ≤ left ∧ ∀ xs ∈ a.next, (xs.length : Int) ≤ left := by
  unfold szAu at h ⊢
  split at h
  · omega
  · rename_i hlt
    rw [if_neg hlt]
    have := szSS_le _ _ h
    exact ⟨by omega, by omega, by omega, fun xs hx => by have := this.2.2 xs hx; omega⟩



theorem flatV (l : List Value) : l.flatMap cV = l := by
  induction l with
  | nil => rfl
  | cons x l ih => rw [List.flatMap_cons, ih]; rfl






/-- what 'markIntSS' writes -/
def mkSS : Int → List (List Int) → List (List Int)
  | _, [] => []
  | k, xs :: r => mkInt k xs.length :: mkSS (k + xs.length) r
def sumLen : List (List Int) → Nat
  | [] => 0
  | xs :: r => xs.length + sumLen r
theorem sumLen_app : ∀ (l r : List (List Int)), sumLen (l ++ r) = sumLen l + sumLen r
  | [], r => by simp [sumLen]
  | x :: l, r => by simp only [List.cons_append, sumLen, sumLen_app l r]; omega
theorem mkSS_app : ∀ (l r : List (List Int)) (k : Int), mkSS k (l ++ r) = mkSS k l ++ mkSS (k + sumLen l) r
  | [], r, k => by simp [mkSS, sumLen]
  | x :: l, r, k => by
    simp only [List.cons_append, mkSS, mkSS_app l r, sumLen]
    congr 3
    omega
theorem mkSS_len : ∀ (l : List (List Int)) (k : Int), (mkSS k l).length = l.length
  | [], _ => rfl
  | x :: l, k => by simp [mkSS, mkSS_len l]
theorem sumLen_take_le : ∀ (l : List (List Int)) (i : Nat), sumLen (l.take i) ≤ sumLen l
  | [], i => by simp [sumLen]
  | x :: l, 0 => by simp [sumLen]
  | x :: l, i + 1 => by simp only [List.take_succ_cons, sumLen]; have := sumLen_take_le l i; omega
theorem mkSS_at (l : List (List Int)) (k : Int) (i : Nat) (xs : List Int) (h : l[i]? = some xs) : (mkSS k l)[i]? = some (mkInt (k + sumLen (l.take i)) xs.length) := by
  have hi := (List.getElem?_eq_some_iff.1 h).1
  have hx := (List.getElem?_eq_some_iff.1 h).2
  have : l = l.take i ++ xs :: l.drop (i + 1) := by
    rw [← hx, ← List.drop_eq_getElem_cons hi, List.take_append_drop]
  rw [this, mkSS_app, mkSS]
  have hlt : (mkSS k (l.take i)).length = i := by rw [mkSS_len, List.length_take]; omega
  have htk : (l.take i ++ xs :: l.drop (i + 1)).take i = l.take i := by
    rw [← this]
  rw [List.getElem?_append_right (by omega), hlt, Nat.sub_self, htk]
  rfl



theorem sumLen_le : ∀ (l : List (List Int)) (m : Nat), (∀ xs ∈ l, xs.length ≤ m) → sumLen l ≤ l.length * m
  | [], _, _ => by simp [sumLen]
  | x :: l, m, h => by
    have h1 := h x (List.mem_cons_self ..)
    have h2 := sumLen_le l m (fun y hy => h y (List.mem_cons_of_mem _ hy))
    simp only [sumLen, List.length_cons, Nat.succ_mul]
    omega
end Go.Proofs.Ythnapjodmndlaaa

/- A slice of slices that the call itself made and fills row by row; appending in a region that draws its order. Over any program. -/
namespace Go.Proofs.Ythnapjodmndlaaa
set_option linter.unusedVariables false
set_option linter.unusedSimpArgs false
open Go.ChangeShapes Go.WideShapes Go.ChangeAt Go.RowKit

section
variable {α : Type} {w w' : World} {base : Nat} {oT rT e : TypeId} {E : α → List Value} {k : Nat} {g : Nat} {hs : List Value} {xss : List (List α)} {v : Value} {n : Nat} {cs : List Value}
theorem ownsRow_block (h : w.ownsRow base e k v n cs) (hb : ∀ g, v.ownBlock = some g → w'.heap[g]? = w.heap[g]?) : w'.ownsRow base e k v n cs := by
  obtain ⟨hl, h⟩ := h
  refine ⟨hl, ?_⟩
  rcases h with h | ⟨g, cap, cur, rfl, hg, hh, r⟩
  · exact .inl h
  · exact .inr ⟨g, cap, cur, rfl, hg, (hb g rfl).trans hh, r⟩
theorem ownsRow_mono (h : w.ownsRow base e k v n cs) {b : Nat} (hb : b ≤ base) : w.ownsRow b e k v n cs := by
  obtain ⟨hl, h⟩ := h
  refine ⟨hl, ?_⟩
  rcases h with h | ⟨g, cap, cur, rfl, hg, r⟩
  · exact .inl h
  · exact .inr ⟨g, cap, cur, rfl, by omega, r⟩

structure Rws {α : Type} (w : World) (base : Nat) (oT rT : TypeId) (E : α → List Value) (k : Nat) (g : Nat) (hs : List Value) (xss : List (List α)) : Prop where
  own : w.ownsRow g oT 1 (.slice (some ⟨g, 0, none⟩) hs.length hs.length) hs.length hs
  len : hs.length = xss.length
  row : ∀ (i : Nat) (h : Value) (xs : List α), hs[i]? = some h → xss[i]? = some xs → w.ownsRow base rT k h xs.length (xs.flatMap E)
  far : ∀ (i : Nat) (h : Value), hs[i]? = some h → h.ownBlock ≠ some g
  apart : ∀ (i j : Nat) (h h' : Value), i ≠ j → hs[i]? = some h → hs[j]? = some h' → h.ownBlock = none ∨ h.ownBlock ≠ h'.ownBlock
theorem Rws.blocks (h : Rws w base oT rT E k g hs xss) (hb : ∀ b, (b = g ∨ base ≤ b) → b < w.heap.size → w'.heap[b]? = w.heap[b]?) : Rws w' base oT rT E k g hs xss := by
  refine ⟨ownsRow_block h.own fun b hb' => hb b (.inl (by simpa [Value.ownBlock] using hb'.symm)) (h.own.lt b hb').2, h.len, fun i v xs hi hx => ?_, h.far, h.apart⟩
  have := h.row i v xs hi hx
  exact ownsRow_block this fun b hb' => hb b (.inr (this.lt b hb').1) (this.lt b hb').2
theorem Rws.below (h : Rws w base oT rT E k g hs xss) (hb : Below w.heap.size w w') : Rws w' base oT rT E k g hs xss := h.blocks fun b _ hlt => hb.block b hlt
theorem Rws.gLt (h : Rws w base oT rT E k g hs xss) : g ≤ g ∧ g < w.heap.size := h.own.lt g rfl
theorem Rws.cell (h : Rws w base oT rT E k g hs xss) {i : Nat} {v : Value} (hi : hs[i]? = some v) : w.cell? ⟨g, i, none⟩ = some v :=
  (World.ownsRow.cellAt h.own i (by have := (List.getElem?_eq_some_iff.1 hi).1; omega)).trans hi
theorem Rws.frozen (h : Rws w base oT rT E k g hs xss) (i : Nat) : w.frozen? ⟨g, i, none⟩ = false := World.ownsRow.frozenAt h.own i
theorem Rws.made (h : w.ownsRow g oT 1 (.slice (some ⟨g, 0, none⟩) n n) n ((List.replicate n (Value.slice none 0 0)).flatMap cV)) : Rws w base oT rT E k g (List.replicate n (.slice none 0 0)) (List.replicate n ([] : List α)) := by
  have hf : ∀ n, (List.replicate n (Value.slice none 0 0)).flatMap cV = List.replicate n (.slice none 0 0) := by
    intro n
    induction n with
    | zero => rfl
    | succ n ih => rw [List.replicate_succ, List.flatMap_cons, ih]; rfl
  have hv : ∀ {i : Nat} {h : Value}, (List.replicate n (Value.slice none 0 0))[i]? = some h → h = .slice none 0 0 := by
    intro i h hi
    rw [List.getElem?_replicate] at hi
    split at hi
    · injection hi with hi; exact hi.symm
    · cases hi
  rw [hf] at h
  refine ⟨by simpa using h, by simp, fun i h xs hi hx => ?_, fun i h hi => ?_, fun i j h h' _ hi _ => .inl ?_⟩
  · have := hv hi
    subst this
    have hx' : xs = [] := by
      rw [List.getElem?_replicate] at hx
      split at hx
      · injection hx with hx; exact hx.symm
      · cases hx
    subst hx'
    exact World.ownsRow_nil w base rT k
  · have := hv hi
    subst this
    simp [Value.ownBlock]
  · have := hv hi
    subst this
    rfl
/-- row i grows by x: the append law's words, then the store of the new header -/
theorem Rws.push (h : Rws w base oT rT E k g hs xss) {i : Nat} {hv : Value} {xs : List α} {x : α} {v' : Value} {g2 : Nat} (hi : hs[i]? = some hv) (hx : xss[i]? = some xs)
    (hown : w'.ownsRow base rT k v' (xs ++ [x]).length ((xs ++ [x]).flatMap E)) (hg : w.grownBy w' hv.ownBlock) (hv' : v'.ownBlock = some g2) (hat : hv.ownBlock = some g2 ∨ w.heap.size ≤ g2) :
    Rws (w'.setCell ⟨g, i, none⟩ v') base oT rT E k g (hs.set i v') (xss.set i (xs ++ [x])) := by
  have hgl := h.gLt
  have hil := (List.getElem?_eq_some_iff.1 hi).1
  have hfar := h.far i hv hi
  have hg2 : g2 ≠ g := by
    rcases hat with h1 | h1
    · intro e; subst e; exact hfar h1
    · omega
  have hset : ∀ b, b ≠ g → (w'.setCell ⟨g, i, none⟩ v').heap[b]? = w'.heap[b]? := fun b hb => Below.heap_setCell _ _ _ _ hb
  have ho1 : w'.ownsRow g oT 1 (.slice (some ⟨g, 0, none⟩) hs.length hs.length) hs.length hs := h.own.kept hg (.inr (by simpa [Value.ownBlock] using Ne.symm hfar))
  have ho2 := (World.ownsRow.stored ho1 i v').1
  refine ⟨by simpa using ho2, by simp [h.len], fun j u ys hj hy => ?_, fun j u hj => ?_, fun j l u u' hjl hj hl => ?_⟩
  · rw [List.getElem?_set] at hj hy
    by_cases e : i = j
    · subst e
      rw [if_pos rfl] at hj hy
      rw [if_pos hil] at hj
      rw [if_pos (by rw [← h.len]; exact hil)] at hy
      injection hj with hj
      injection hy with hy
      subst hj hy
      exact ownsRow_block hown fun b hb => hset b (by rw [hv'] at hb; injection hb with hb; omega)
    · rw [if_neg e] at hj hy
      have hr := h.row j u ys hj hy
      have hr2 : w'.ownsRow base rT k u ys.length (ys.flatMap E) := hr.kept hg (h.apart j i u hv (Ne.symm e) hj hi)
      exact ownsRow_block hr2 fun b hb => hset b (by intro e2; subst e2; exact h.far j u hj hb)
  · rw [List.getElem?_set] at hj
    by_cases e : i = j
    · subst e
      rw [if_pos rfl, if_pos hil] at hj
      injection hj with hj
      subst hj
      rw [hv']
      simpa using hg2
    · rw [if_neg e] at hj
      exact h.far j u hj
  · have hold : ∀ (j : Nat) (u : Value), j ≠ i → hs[j]? = some u → u.ownBlock = none ∨ u.ownBlock ≠ some g2 := by
      intro j u hji hj
      rcases hat with h1 | h1
      · rcases h.apart j i u hv hji hj hi with h2 | h2
        · exact .inl h2
        · rw [h1] at h2; exact .inr h2
      · cases hu : u.ownBlock with
        | none => exact .inl rfl
        | some b =>
          refine .inr ?_
          have hjl := (List.getElem?_eq_some_iff.1 hj).1
          have hjx : j < xss.length := by rw [← h.len]; exact hjl
          have hr := h.row j u xss[j] hj (List.getElem?_eq_getElem hjx)
          have := (hr.lt b hu).2
          simp only [ne_eq, Option.some.injEq]
          omega
    rw [List.getElem?_set] at hj hl
    by_cases e : i = j
    · subst e
      rw [if_neg hjl] at hl
      rw [if_pos rfl, if_pos hil] at hj
      injection hj with hj
      subst hj
      refine .inr ?_
      rw [hv']
      rcases hold l u' (Ne.symm hjl) hl with h1 | h1
      · rw [h1]; simp
      · exact Ne.symm h1
    · rw [if_neg e] at hj
      by_cases e2 : i = l
      · subst e2
        rw [if_pos rfl, if_pos hil] at hl
        injection hl with hl
        subst hl
        rw [hv']
        exact hold j u (Ne.symm e) hj
      · rw [if_neg e2] at hl
        exact h.apart j l u u' hjl hj hl

/-- a slice of slices of E's that is only read; its blocks lie from lo to hi -/
def SSE {α : Type} (lo hi : Nat) (w : World) (E : α → List Value) (k : Nat) (v : Value) (xss : List (List α)) : Prop :=
  ∃ A c, v = .slice A xss.length c ∧ xss.length ≤ c ∧ c ≤ 9223372036854775807 ∧
    ∀ (i : Nat) (xs : List α), xss[i]? = some xs → ∃ b o u, A = some ⟨b, o, none⟩ ∧ lo ≤ b ∧ b < hi ∧ w.cell? ⟨b, o + i, none⟩ = some u ∧ SlI lo hi w E k u xs
theorem SSE.keep_ {lo hi : Nat} {v : Value} (h : SSE lo hi w E k v xss) (hb : ∀ b o, lo ≤ b → b < hi → w'.cell? ⟨b, o, none⟩ = w.cell? ⟨b, o, none⟩) : SSE lo hi w' E k v xss := by
  obtain ⟨A, c, h1, h2, h3, h4⟩ := h
  refine ⟨A, c, h1, h2, h3, fun i xs hx => ?_⟩
  obtain ⟨b, o, u, g1, g2, g3, g4, g5⟩ := h4 i xs hx
  exact ⟨b, o, u, g1, g2, g3, (hb _ _ g2 g3).trans g4, g5.keep_ hb⟩
theorem SSE.below {lo hi : Nat} {v : Value} (h : SSE lo hi w E k v xss) {B : Nat} (hb : Below B w w') (hB : hi ≤ B) : SSE lo hi w' E k v xss := h.keep_ fun b o _ h2 => hb.cell (p := ⟨b, o, none⟩) (show b < B by omega)
theorem SSE.only {lo hi l r : Nat} {v : Value} (h : SSE lo hi w E k v xss) (hb : Only l r w w') (hh : hi ≤ w.heap.size) (ho : hi ≤ l ∨ r ≤ lo) : SSE lo hi w' E k v xss :=
  h.keep_ fun b o h1 h2 => hb.cell (p := ⟨b, o, none⟩) (show b < _ by omega) (show b < l ∨ r ≤ b by omega)
theorem SSE.mono {lo hi lo' hi' : Nat} {v : Value} (h : SSE lo hi w E k v xss) (h1 : lo' ≤ lo) (h2 : hi ≤ hi') : SSE lo' hi' w E k v xss := by
  obtain ⟨A, c, e1, e2, e3, h4⟩ := h
  refine ⟨A, c, e1, e2, e3, fun i xs hx => ?_⟩
  obtain ⟨b, o, u, g1, g2, g3, g4, g5⟩ := h4 i xs hx
  exact ⟨b, o, u, g1, by omega, by omega, g4, g5.mono h1 h2⟩
theorem SSE.keep {v : Value} (h : SSE 0 w.heap.size w E k v xss) (hb : Below w.heap.size w w') : SSE 0 w'.heap.size w' E k v xss := (h.below hb (Nat.le_refl _)).mono (Nat.le_refl _) hb.size
theorem SSE.shape {lo hi : Nat} {v : Value} (h : SSE lo hi w E k v xss) : ∃ A c, v = .slice A xss.length c ∧ xss.length ≤ c ∧ c ≤ 9223372036854775807 := by
  obtain ⟨A, c, e1, e2, e3, _⟩ := h
  exact ⟨A, c, e1, e2, e3⟩
/-- row i, as a walk wants it -/
theorem SSE.row {lo hi : Nat} {A : Option Addr} {n c : Nat} (h : SSE lo hi w E k (.slice A n c) xss) (hh : hi ≤ w.heap.size) {i : Nat} {xs : List α} (hx : xss[i]? = some xs) :
    ∃ b o A3 c3, A = some ⟨b, o, none⟩ ∧ lo ≤ b ∧ b < hi ∧ w.cell? ⟨b, o + i, none⟩ = some (.slice A3 xs.length c3) ∧ xs.length ≤ c3 ∧ c3 ≤ 9223372036854775807 ∧ SlI lo hi w E k (.slice A3 xs.length c3) xs ∧ SlC w.heap.size w E k A3 xs := by
  obtain ⟨A', c', e1, e2, e3, h4⟩ := h
  obtain ⟨b, o, u, g1, g2, g3, g4, g5⟩ := h4 i xs hx
  injection e1 with e1 _ _
  subst e1
  obtain ⟨A3, c3, rfl, f1, f2, f3⟩ := SlE.form (g5.all hh)
  exact ⟨b, o, A3, c3, g1, g2, g3, g4, f1, f2, g5, f3⟩
theorem Rws.sse (h : Rws w base oT rT E k g hs xss) (hE : ∀ x, (E x).length = k) {lo : Nat} (h1 : lo ≤ g) (h2 : lo ≤ base) : SSE lo w.heap.size w E k (.slice (some ⟨g, 0, none⟩) hs.length hs.length) xss := by
  have hgl := h.gLt
  refine ⟨some ⟨g, 0, none⟩, hs.length, by rw [h.len], by rw [h.len]; exact Nat.le_refl _, ?_, fun i xs hx => ?_⟩
  · obtain ⟨_, h1⟩ := h.own
    rcases h1 with ⟨h1, _⟩ | ⟨g', cap, cur, h1, _, _, h2, h3, _⟩
    · cases h1
    · unfold maxLen at h3
      omega
  · have hil := (List.getElem?_eq_some_iff.1 hx).1
    have hih : i < hs.length := by rw [h.len]; exact hil
    have hi : hs[i]? = some hs[i] := List.getElem?_eq_getElem hih
    have hr : Own base w.heap.size w rT E k hs[i] xs := ⟨h.row i _ xs hi hx, fun g hg => ((h.row i _ xs hi hx).lt g hg).2⟩
    exact ⟨g, 0, hs[i], rfl, h1, hgl.2, by rw [Nat.zero_add, h.cell hi], (hr.sl hE).mono h2 (Nat.le_refl _)⟩
end

section
variable {P : Program} {w : World}
/-- append(s, x) at a step of a region that draws its order; the one element lies in block H -/
theorem step_append1 {α : Type} (E : α → List Value) {ops : Array Oper} {o : Oper} {a : Act} {K : Act → World → Prop} {Q : Exit → Act → World → Prop} {EE : Prop} {t e : TypeId} {z : Value} {k bytes : Nat} (el : ElemOk P t e z k bytes)
    (hgd : o.guard = none) (s y : Operand) (ho : o.op = .call { callee := .builtin .append, args := #[s, y], argTypes := #[t, t] })
    (base : Nat) (v : Value) (xs : List α) (x : α) (c H : Nat) (hs : a.eval s = v) (hown : w.ownsRow base e k v xs.length (xs.flatMap E)) (hy : a.eval y = .slice (some ⟨H, 0, none⟩) 1 c)
    (hH : w.heap[H]? = some (.cells (E x).toArray e (0, 0))) (hE : (E x).length = k) (h1 : ∀ u ∈ E x, u.oneCell' = true) (hbytes : (xs.length + 1) * bytes ≤ 140737488355328) (hb0 : 0 < bytes) (hbase : base ≤ w.heap.size)
    (h : ∀ g cap w', w'.ownsRow base e k (.slice (some ⟨g, 0, none⟩) (xs.length + 1) cap) (xs ++ [x]).length ((xs ++ [x]).flatMap E) → w.grownBy w' v.ownBlock → (v.ownBlock = some g ∨ w.heap.size ≤ g) → g < w'.heap.size →
      K (a.put o.dst (.slice (some ⟨g, 0, none⟩) (xs.length + 1) cap)) w') :
    if Region.wanted o (yielded ops a.tmps) = true then Oper.wp P o a w K Q else EE := by
  obtain ⟨i, hi, hz0, hz1, hz2⟩ := info_parts el.info
  have hlen : xs.length + 1 ≤ 140737488355328 := Nat.le_trans (Nat.le_mul_of_pos_right _ hb0) hbytes
  refine step_append_lies w hgd s y t ho base e i z k bytes el.und hi hz0 hz1 hz2 el.zc el.pos v xs.length (xs.flatMap E) hs hown ⟨H, 0, none⟩ 1 c (E x) hy (by rw [hE, Nat.one_mul])
    (by have := World.news_of_block hH; simpa using this) h1 (by omega) (by unfold maxLen; omega) hbytes hbase w.heap.size rfl fun g cap w' h2 h3 h4 h5 => ?_
  refine h g cap w' (by simpa using h2) h3 ?_ h5
  rcases h4 with h4 | h4
  · exact .inl h4
  · exact .inr (by omega)
end
theorem ocell {lo hi : Nat} {w w' : World} (h : Only lo hi w w') {b o : Nat} {v : Value} (hc : w.cell? ⟨b, o, none⟩ = some v) (hb : b < w.heap.size) (ho : b < lo ∨ hi ≤ b) : w'.cell? ⟨b, o, none⟩ = some v := (h.cell (p := ⟨b, o, none⟩) hb ho).trans hc
theorem SlI.nat {lo hi : Nat} {w : World} {A : Option Addr} {n c : Nat} {xs : List Nat} (h : SlI lo hi w cN 1 (.slice A n c) xs) {i : Nat} {x : Nat} (hx : xs[i]? = some x) :
    ∃ b o, A = some ⟨b, o, none⟩ ∧ lo ≤ b ∧ b < hi ∧ w.cell? ⟨b, o + i, none⟩ = some (.int .i64 (x : Int)) := by
  obtain ⟨A', c', hv, _, _, h3⟩ := h
  injection hv with h1 _ _
  subst h1
  obtain ⟨b, o, e, g1, g2, hc⟩ := h3 i x hx
  exact ⟨b, o, e, g1, g2, by simpa using hc 0 _ rfl⟩
/-- an append to a row, then the store of its header: only that row's block and the header block have turned -/
theorem Only.pushed {lo hi g i : Nat} {a w w' : World} {row : Option Nat} {u : Value} (h : Only lo hi a w) (hg : w.grownBy w' row) (hr : ∀ b, row = some b → (lo ≤ b ∧ b < hi) ∨ a.heap.size ≤ b) (hgb : (lo ≤ g ∧ g < hi) ∨ a.heap.size ≤ g) : Only lo hi a (w'.setCell ⟨g, i, none⟩ u) :=
  Only.setCell ⟨hg.os.trans h.os, hg.tape.trans h.tape, hg.output.trans h.output, Nat.le_trans h.size hg.size, fun n hn ho => (hg.block n (Nat.lt_of_lt_of_le hn h.size) (fun e => by have := hr n e.symm; omega)).trans (h.block n hn ho)⟩ hgb _
theorem flatI_at {xs : List Int} {t : Nat} {x : Int} (h : xs[t]? = some x) : (xs.flatMap cI)[t]? = some (.int .i64 x) := by
  have := flat_at cI_len h 0 _ rfl
  simpa using this
theorem flatI_set (xs : List Int) (t : Nat) (x : Int) : (xs.flatMap cI).set t (.int .i64 x) = (xs.set t x).flatMap cI := by
  induction xs generalizing t with
  | nil => simp
  | cons y xs ih =>
    cases t with
    | zero => rfl
    | succ t =>
      have := ih t
      simp only [List.set_cons_succ, List.flatMap_cons, cI, List.cons_append, List.nil_append] at this ⊢
      rw [this]
theorem getD_of {D : List Int} {k : Nat} (h : k < D.length) : D[k]? = some (D.getD k 0) := by
  simp [List.getD, List.getElem?_eq_getElem h]
end Go.Proofs.Ythnapjodmndlaaa

/- Rows of rows of the call's own, told by the blocks that they hold: an outer row of slices, each of them a row of its own, no two in one block. Over any program. -/
namespace Go.Proofs.Ythnapjodmndlaaa
set_option linter.unusedVariables false
set_option linter.unusedSimpArgs false
open Go.ChangeShapes Go.WideShapes Go.ChangeAt Go.RowKit

section
variable {H b o : Nat} {w : World}
theorem SlC.intA {xs : List Int} (h : SlC H w cI 1 (some ⟨b, o, none⟩) xs) {i : Nat} {x : Int} (hx : xs[i]? = some x) : b < H ∧ w.cell? ⟨b, o + i, none⟩ = some (.int .i64 x) := by
  obtain ⟨b', o', e, h1, h2⟩ := h.int hx
  injection e with e
  injection e with e1 e2
  subst e1 e2
  exact ⟨h1, h2⟩
theorem SlC.natA {xs : List Nat} (h : SlC H w cN 1 (some ⟨b, o, none⟩) xs) {i : Nat} {x : Nat} (hx : xs[i]? = some x) : b < H ∧ w.cell? ⟨b, o + i, none⟩ = some (.int .i64 (x : Int)) := by
  obtain ⟨b', o', e, h1, h2⟩ := h.nat hx
  injection e with e
  injection e with e1 e2
  subst e1 e2
  exact ⟨h1, h2⟩
theorem SlC.stA {xs : List St} (h : SlC H w cSt 2 (some ⟨b, o, none⟩) xs) {i : Nat} {x : St} (hx : xs[i]? = some x) : b < H ∧ w.cell? ⟨b, o + i * 2, none⟩ = some (.int .i64 x.1) ∧ w.cell? ⟨b, o + i * 2 + 1, none⟩ = some (.bool x.2) := by
  obtain ⟨b', o', e, h1, h2, h3⟩ := h.st hx
  injection e with e
  injection e with e1 e2
  subst e1 e2
  exact ⟨h1, h2, h3⟩
end
theorem flatCV (l : List Value) : l.flatMap cV = l := by
  induction l with
  | nil => rfl
  | cons x l ih => rw [List.flatMap_cons, ih]; rfl
/-- the blocks that slices hold -/
abbrev blks (us : List Value) : List Nat := us.filterMap Value.ownBlock
structure NS {α : Type} (lo : Nat) (w : World) (oT eT : TypeId) (E : α → List Value) (k : Nat) (v : Value) (us : List Value) (xss : List (List α)) : Prop where
  own : w.ownsRow lo oT 1 v us.length (us.flatMap cV)
  len : us.length = xss.length
  rows : ∀ (i : Nat) (u : Value) (xs : List α), us[i]? = some u → xss[i]? = some xs → w.ownsRow lo eT k u xs.length (xs.flatMap E)
  dis : (blks (v :: us)).Nodup
section
variable {α : Type} {lo : Nat} {w w' : World} {oT eT : TypeId} {E : α → List Value} {k : Nat} {v : Value} {us : List Value} {xss : List (List α)}
theorem mem_blks {us : List Value} {b : Nat} : b ∈ blks us ↔ ∃ (i : Nat) (u : Value), us[i]? = some u ∧ u.ownBlock = some b := by
  rw [List.mem_filterMap]
  constructor
  · rintro ⟨u, hu, hb⟩
    obtain ⟨i, hi⟩ := List.getElem?_of_mem hu
    exact ⟨i, u, hi, hb⟩
  · rintro ⟨i, u, hu, hb⟩
    exact ⟨u, List.mem_of_getElem? hu, hb⟩
theorem NS.lt (h : NS lo w oT eT E k v us xss) : ∀ b ∈ blks (v :: us), lo ≤ b ∧ b < w.heap.size := by
  intro b hb
  obtain ⟨i, u, hu, hbu⟩ := mem_blks.1 hb
  cases i with
  | zero =>
    simp only [List.getElem?_cons_zero, Option.some.injEq] at hu
    subst hu
    exact h.own.lt b hbu
  | succ i =>
    rw [List.getElem?_cons_succ] at hu
    have hi : i < xss.length := by rw [← h.len]; exact (List.getElem?_eq_some_iff.1 hu).1
    exact (h.rows i u _ hu (List.getElem?_eq_getElem hi)).lt b hbu
theorem NS.blocks (h : NS lo w oT eT E k v us xss) (hb : ∀ b ∈ blks (v :: us), w'.heap[b]? = w.heap[b]?) : NS lo w' oT eT E k v us xss :=
  ⟨ownsRow_block h.own fun g hg => hb g (mem_blks.2 ⟨0, v, rfl, hg⟩), h.len,
    fun i u xs hu hx => ownsRow_block (h.rows i u xs hu hx) fun g hg => hb g (mem_blks.2 ⟨i + 1, u, by simpa using hu, hg⟩), h.dis⟩
theorem NS.below (h : NS lo w oT eT E k v us xss) (hb : Below w.heap.size w w') : NS lo w' oT eT E k v us xss := h.blocks fun b hm => hb.block b (h.lt b hm).2
theorem NS.mono (h : NS lo w oT eT E k v us xss) {lo' : Nat} (hl : lo' ≤ lo) : NS lo' w oT eT E k v us xss :=
  ⟨ownsRow_mono h.own hl, h.len, fun i u xs hu hx => ownsRow_mono (h.rows i u xs hu hx) hl, h.dis⟩
theorem NS.start (h : w.ownsRow lo oT 1 v 0 []) : NS lo w oT eT E k v [] ([] : List (List α)) :=
  ⟨h, rfl, fun i u xs hu _ => by simp at hu, by cases hv : v.ownBlock <;> simp [hv]⟩
theorem NS.push (h : NS lo w oT eT E k v us xss) {u : Value} {xs : List α} (hu : w.ownsRow lo eT k u xs.length (xs.flatMap E)) (hn : ∀ b, u.ownBlock = some b → b ∉ blks (v :: us))
    {v' : Value} (hg : w.grownBy w' v.ownBlock) (hr : w'.ownsRow lo oT 1 v' (us ++ [u]).length ((us ++ [u]).flatMap cV)) (hat : ∀ g, v'.ownBlock = some g → v.ownBlock = some g ∨ w.heap.size ≤ g) :
    NS lo w' oT eT E k v' (us ++ [u]) (xss ++ [xs]) := by
  have hdis := h.dis
  have hkeep : ∀ (u' : Value) (n : Nat) (cs : List Value), w.ownsRow lo eT k u' n cs → (∀ b, u'.ownBlock = some b → v.ownBlock ≠ some b) → w'.ownsRow lo eT k u' n cs := fun u' n cs ho hne => by
    refine ho.kept hg ?_
    cases hb : u'.ownBlock with
    | none => exact .inl rfl
    | some b => exact .inr fun e => hne b hb e.symm
  have hv0 : ∀ b, v.ownBlock = some b → b ∉ blks us := fun b hb => by
    rw [blks, List.filterMap_cons, hb] at hdis
    exact (List.nodup_cons.1 hdis).1
  refine ⟨hr, by simp [h.len], fun i u' xs' hi hx => ?_, ?_⟩
  · rcases Nat.lt_or_ge i us.length with hlt | hge
    · rw [List.getElem?_append_left hlt] at hi
      rw [List.getElem?_append_left (by rw [← h.len]; exact hlt)] at hx
      exact hkeep _ _ _ (h.rows i u' xs' hi hx) fun b hb hvb => hv0 b hvb (mem_blks.2 ⟨i, u', hi, hb⟩)
    · have hi2 := (List.getElem?_eq_some_iff.1 hi).1
      simp only [List.length_append, List.length_singleton] at hi2
      obtain rfl : i = us.length := by omega
      have e1 : u = u' := by simpa using hi
      have e2 : xs = xs' := by rw [h.len] at hx; simpa using hx
      subst e1 e2
      exact hkeep _ _ _ hu fun b hb hvb => hn b hb (mem_blks.2 ⟨0, v, rfl, hvb⟩)
  · have hlt := h.lt
    have hus : (blks us).Nodup := by
      cases hv : v.ownBlock with
      | none => simpa [blks, List.filterMap_cons, hv] using hdis
      | some b => rw [blks, List.filterMap_cons, hv] at hdis; exact (List.nodup_cons.1 hdis).2
    have hnu : ∀ b, u.ownBlock = some b → b ∉ blks us := fun b hb hm => hn b hb (by
      obtain ⟨i, u', h1, h2⟩ := mem_blks.1 hm
      exact mem_blks.2 ⟨i + 1, u', by simpa using h1, h2⟩)
    have hall : (blks (us ++ [u])).Nodup := by
      rw [blks, List.filterMap_append]
      cases hub : u.ownBlock with
      | none => simpa [List.filterMap_cons, hub] using hus
      | some b =>
        rw [List.filterMap_cons, hub]
        refine List.nodup_append.2 ⟨hus, by simp, ?_⟩
        intro x hx y hy e
        simp only [List.filterMap_nil, List.mem_cons, List.not_mem_nil, or_false] at hy
        subst hy
        subst e
        exact hnu _ hub hx
    rw [blks, List.filterMap_cons]
    cases hv' : v'.ownBlock with
    | none => exact hall
    | some g =>
      refine List.nodup_cons.2 ⟨fun hm => ?_, hall⟩
      obtain ⟨i, u', hi, hb⟩ := mem_blks.1 hm
      rcases Nat.lt_or_ge i us.length with hl | hge
      · rw [List.getElem?_append_left hl] at hi
        rcases hat g hv' with h1 | h1
        · exact hv0 g h1 (mem_blks.2 ⟨i, u', hi, hb⟩)
        · have := (hlt g (mem_blks.2 ⟨i + 1, u', by simpa using hi, hb⟩)).2
          omega
      · have hi2 := (List.getElem?_eq_some_iff.1 hi).1
        simp only [List.length_append, List.length_singleton] at hi2
        obtain rfl : i = us.length := by omega
        have e1 : u = u' := by simpa using hi
        subst e1
        rcases hat g hv' with h1 | h1
        · exact hn g hb (mem_blks.2 ⟨0, v, rfl, h1⟩)
        · have := (hu.lt g hb).2
          omega
theorem grown_alloc {o : Obj} {row : Option Nat} (h : (w.alloc o).grownBy w' row) : w.grownBy w' row :=
  ⟨h.os, h.tape, h.output, Nat.le_trans (by simp) h.size, fun n hn hne => (h.block n (by simp; omega) hne).trans (Below.heap_alloc w o n hn)⟩
/-- what is read of it: the header of row i, and the row -/
theorem NS.row (h : NS lo w oT eT E k v us xss) (hE : ∀ x, (E x).length = k) {i : Nat} {xs : List α} (hx : xss[i]? = some xs) :
    ∃ g cap A c, v = .slice (some ⟨g, 0, none⟩) xss.length cap ∧ us[i]? = some (.slice A xs.length c) ∧ g < w.heap.size ∧ w.cell? ⟨g, i, none⟩ = some (.slice A xs.length c) ∧ xs.length ≤ c ∧ c ≤ maxLen ∧ SlI lo w.heap.size w E k (.slice A xs.length c) xs := by
  have hi : i < us.length := by rw [h.len]; exact (List.getElem?_eq_some_iff.1 hx).1
  have hu : us[i]? = some us[i] := List.getElem?_eq_getElem hi
  have hr := h.rows i _ xs hu hx
  generalize us[i] = u at hu hr
  have hsl := (Own.of_row (xs := xs) hr rfl rfl).sl hE
  have hsl' := hsl
  obtain ⟨A, c, rfl, hl, hm, -⟩ := hsl'
  have hown := h.own
  have hlt := h.own.lt
  rw [flatCV] at hown
  have hown2 := hown
  obtain ⟨h1, h2⟩ := hown2
  rcases h2 with ⟨rfl, h3⟩ | ⟨g, cap, cur, rfl, r⟩
  · omega
  · refine ⟨g, cap, A, c, by rw [h.len], hu, (hlt g rfl).2, ?_, hl, hm, hsl⟩
    rw [World.ownsRow.cellAt hown i (by omega)]
    exact hu
theorem NS.at (h : NS lo w oT eT E k v us xss) (hE : ∀ x, (E x).length = k) {g n cap : Nat} (hv : v = .slice (some ⟨g, 0, none⟩) n cap) {i : Nat} {xs : List α} (hx : xss[i]? = some xs) :
    ∃ A c, w.cell? ⟨g, i, none⟩ = some (.slice A xs.length c) ∧ xs.length ≤ c ∧ c ≤ 9223372036854775807 ∧ SlI lo w.heap.size w E k (.slice A xs.length c) xs := by
  obtain ⟨g', cap', A, c, hv', -, -, hc, h1, h2, h3⟩ := h.row hE hx
  rw [hv] at hv'
  injection hv' with e1 _ _
  injection e1 with e1
  injection e1 with e1
  subst e1
  exact ⟨A, c, hc, h1, h2, h3⟩
/-- a row that is not empty has a block of its own -/
theorem own_some {W : World} {base k n : Nat} {e : TypeId} {v : Value} {cs : List Value} (h : W.ownsRow base e k v n cs) (hn : n ≠ 0) : ∃ g c, v = .slice (some ⟨g, 0, none⟩) n c ∧ base ≤ g ∧ g < W.heap.size ∧ n ≤ c ∧ c ≤ 9223372036854775807 := by
  have hlt := h.lt
  obtain ⟨h1, h2⟩ := h
  rcases h2 with ⟨rfl, h3⟩ | ⟨g, cap, cur, rfl, h4, h5, h6, h7, r⟩
  · exact absurd h3 hn
  · exact ⟨g, cap, rfl, h4, (hlt g rfl).2, h6, h7⟩
theorem NS.shape (h : NS lo w oT eT E k v us xss) : ∃ A c, v = .slice A xss.length c ∧ xss.length ≤ c ∧ c ≤ maxLen := by
  obtain ⟨h1, h2⟩ := h.own
  rcases h2 with ⟨rfl, h3⟩ | ⟨g, cap, cur, rfl, h4, h5, h6, h7, r⟩
  · exact ⟨none, 0, by rw [← h.len, h3], by rw [← h.len, h3]; exact Nat.le_refl _, by unfold maxLen; omega⟩
  · exact ⟨_, cap, by rw [h.len], by rw [← h.len]; exact h6, h7⟩
end
end Go.Proofs.Ythnapjodmndlaaa

