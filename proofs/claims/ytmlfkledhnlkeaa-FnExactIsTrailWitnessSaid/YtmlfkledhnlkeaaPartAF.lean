/- Parts of the proof, joined into one text: Keep, HeldL. -/
import Derived.Test.YtmlfkledhnlkeaaPartAA
import Derived.Deep.RegionHeld
import Derived.Test.YtmlfkledhnlkeaaPartAB
import Derived.Test.YtmlfkledhnlkeaaPartAE
/- What a drawn region reads is kept behind calls, new blocks and appends to rows of other blocks. -/
namespace Go.Proofs.Ytmlfkledhnlkeaa
set_option linter.unusedVariables false
set_option linter.unusedSimpArgs false
open Go.ChangeShapes Go.WideShapes Go.ChangeAt Go.RowKit
section
variable {w w' : World}
theorem kcell (hb : Below w.heap.size w w') {p : Addr} {v : Value} (h : w.cell? p = some v) : w'.cell? p = some v := (hb.cell (World.block_lt_of_cell? w _ h)).trans h
theorem kfb (hb : Below w.heap.size w w') {p : Addr} {v : Value} (hc : w.cell? p = some v) (hf : w.frozen? p = false) : w'.frozen? p = false := (hb.frozen (World.block_lt_of_cell? w _ hc)).trans hf
theorem kfg {row : Option Nat} (hg : w.grownBy w' row) {p : Addr} {v : Value} (hn : some p.block ≠ row) (hc : w.cell? p = some v) (hf : w.frozen? p = false) : w'.frozen? p = false := (World.frozen?_of_block (hg.block p.block (World.block_lt_of_cell? w _ hc) hn)).trans hf
theorem kB2 {p0 p1 : Addr} {v0 v1 : Value} (hb : Below w.heap.size w w') (h : w.cell? p0 = some v0 ∧ w.cell? p1 = some v1) : w'.cell? p0 = some v0 ∧ w'.cell? p1 = some v1 := by
  obtain ⟨c0, c1⟩ := h
  exact ⟨kcell hb c0, kcell hb c1⟩
theorem kA2 {p0 p1 : Addr} {v0 v1 : Value} (o : Obj) (h : w.cell? p0 = some v0 ∧ w.cell? p1 = some v1) : (w.alloc o).cell? p0 = some v0 ∧ (w.alloc o).cell? p1 = some v1 := kB2 ((Below.refl _ _).alloc (Nat.le_refl _) _) h
theorem kS2 {p0 p1 q : Addr} {v0 v1 x : Value} (n0 : q.block ≠ p0.block) (n1 : q.block ≠ p1.block) (h : w.cell? p0 = some v0 ∧ w.cell? p1 = some v1) : (w.setCell q x).cell? p0 = some v0 ∧ (w.setCell q x).cell? p1 = some v1 := by
  obtain ⟨c0, c1⟩ := h
  exact ⟨(World.cell?_setCell_far _ _ _ _ n0).trans c0, (World.cell?_setCell_far _ _ _ _ n1).trans c1⟩
theorem kG2 {p0 p1 : Addr} {v0 v1 : Value} {row : Option Nat} (hg : w.grownBy w' row) (n0 : some p0.block ≠ row) (n1 : some p1.block ≠ row) (h : w.cell? p0 = some v0 ∧ w.cell? p1 = some v1) : w'.cell? p0 = some v0 ∧ w'.cell? p1 = some v1 := by
  obtain ⟨c0, c1⟩ := h
  exact ⟨hg.cell c0 n0, hg.cell c1 n1⟩
theorem kB3 {p0 p1 p2 : Addr} {v0 v1 v2 : Value} (hb : Below w.heap.size w w') (h : w.cell? p0 = some v0 ∧ w.cell? p1 = some v1 ∧ w.cell? p2 = some v2) : w'.cell? p0 = some v0 ∧ w'.cell? p1 = some v1 ∧ w'.cell? p2 = some v2 := by
  obtain ⟨c0, c1, c2⟩ := h
  exact ⟨kcell hb c0, kcell hb c1, kcell hb c2⟩
theorem kA3 {p0 p1 p2 : Addr} {v0 v1 v2 : Value} (o : Obj) (h : w.cell? p0 = some v0 ∧ w.cell? p1 = some v1 ∧ w.cell? p2 = some v2) : (w.alloc o).cell? p0 = some v0 ∧ (w.alloc o).cell? p1 = some v1 ∧ (w.alloc o).cell? p2 = some v2 := kB3 ((Below.refl _ _).alloc (Nat.le_refl _) _) h
theorem kS3 {p0 p1 p2 q : Addr} {v0 v1 v2 x : Value} (n0 : q.block ≠ p0.block) (n1 : q.block ≠ p1.block) (n2 : q.block ≠ p2.block) (h : w.cell? p0 = some v0 ∧ w.cell? p1 = some v1 ∧ w.cell? p2 = some v2) : (w.setCell q x).cell? p0 = some v0 ∧ (w.setCell q x).cell? p1 = some v1 ∧ (w.setCell q x).cell? p2 = some v2 := by
  obtain ⟨c0, c1, c2⟩ := h
  exact ⟨(World.cell?_setCell_far _ _ _ _ n0).trans c0, (World.cell?_setCell_far _ _ _ _ n1).trans c1, (World.cell?_setCell_far _ _ _ _ n2).trans c2⟩
theorem kG3 {p0 p1 p2 : Addr} {v0 v1 v2 : Value} {row : Option Nat} (hg : w.grownBy w' row) (n0 : some p0.block ≠ row) (n1 : some p1.block ≠ row) (n2 : some p2.block ≠ row) (h : w.cell? p0 = some v0 ∧ w.cell? p1 = some v1 ∧ w.cell? p2 = some v2) : w'.cell? p0 = some v0 ∧ w'.cell? p1 = some v1 ∧ w'.cell? p2 = some v2 := by
  obtain ⟨c0, c1, c2⟩ := h
  exact ⟨hg.cell c0 n0, hg.cell c1 n1, hg.cell c2 n2⟩
theorem kB4 {p0 p1 p2 p3 : Addr} {v0 v1 v2 v3 : Value} (hb : Below w.heap.size w w') (h : w.cell? p0 = some v0 ∧ w.cell? p1 = some v1 ∧ w.cell? p2 = some v2 ∧ w.cell? p3 = some v3) : w'.cell? p0 = some v0 ∧ w'.cell? p1 = some v1 ∧ w'.cell? p2 = some v2 ∧ w'.cell? p3 = some v3 := by
  obtain ⟨c0, c1, c2, c3⟩ := h
  exact ⟨kcell hb c0, kcell hb c1, kcell hb c2, kcell hb c3⟩
theorem kA4 {p0 p1 p2 p3 : Addr} {v0 v1 v2 v3 : Value} (o : Obj) (h : w.cell? p0 = some v0 ∧ w.cell? p1 = some v1 ∧ w.cell? p2 = some v2 ∧ w.cell? p3 = some v3) : (w.alloc o).cell? p0 = some v0 ∧ (w.alloc o).cell? p1 = some v1 ∧ (w.alloc o).cell? p2 = some v2 ∧ (w.alloc o).cell? p3 = some v3 := kB4 ((Below.refl _ _).alloc (Nat.le_refl _) _) h
theorem kS4 {p0 p1 p2 p3 q : Addr} {v0 v1 v2 v3 x : Value} (n0 : q.block ≠ p0.block) (n1 : q.block ≠ p1.block) (n2 : q.block ≠ p2.block) (n3 : q.block ≠ p3.block) (h : w.cell? p0 = some v0 ∧ w.cell? p1 = some v1 ∧ w.cell? p2 = some v2 ∧ w.cell? p3 = some v3) : (w.setCell q x).cell? p0 = some v0 ∧ (w.setCell q x).cell? p1 = some v1 ∧ (w.setCell q x).cell? p2 = some v2 ∧ (w.setCell q x).cell? p3 = some v3 := by
  obtain ⟨c0, c1, c2, c3⟩ := h
  exact ⟨(World.cell?_setCell_far _ _ _ _ n0).trans c0, (World.cell?_setCell_far _ _ _ _ n1).trans c1, (World.cell?_setCell_far _ _ _ _ n2).trans c2, (World.cell?_setCell_far _ _ _ _ n3).trans c3⟩
theorem kG4 {p0 p1 p2 p3 : Addr} {v0 v1 v2 v3 : Value} {row : Option Nat} (hg : w.grownBy w' row) (n0 : some p0.block ≠ row) (n1 : some p1.block ≠ row) (n2 : some p2.block ≠ row) (n3 : some p3.block ≠ row) (h : w.cell? p0 = some v0 ∧ w.cell? p1 = some v1 ∧ w.cell? p2 = some v2 ∧ w.cell? p3 = some v3) : w'.cell? p0 = some v0 ∧ w'.cell? p1 = some v1 ∧ w'.cell? p2 = some v2 ∧ w'.cell? p3 = some v3 := by
  obtain ⟨c0, c1, c2, c3⟩ := h
  exact ⟨hg.cell c0 n0, hg.cell c1 n1, hg.cell c2 n2, hg.cell c3 n3⟩
theorem kB5 {p0 p1 p2 p3 p4 : Addr} {v0 v1 v2 v3 v4 : Value} (hb : Below w.heap.size w w') (h : w.cell? p0 = some v0 ∧ w.cell? p1 = some v1 ∧ w.cell? p2 = some v2 ∧ w.cell? p3 = some v3 ∧ w.cell? p4 = some v4) : w'.cell? p0 = some v0 ∧ w'.cell? p1 = some v1 ∧ w'.cell? p2 = some v2 ∧ w'.cell? p3 = some v3 ∧ w'.cell? p4 = some v4 := by
  obtain ⟨c0, c1, c2, c3, c4⟩ := h
  exact ⟨kcell hb c0, kcell hb c1, kcell hb c2, kcell hb c3, kcell hb c4⟩
theorem kA5 {p0 p1 p2 p3 p4 : Addr} {v0 v1 v2 v3 v4 : Value} (o : Obj) (h : w.cell? p0 = some v0 ∧ w.cell? p1 = some v1 ∧ w.cell? p2 = some v2 ∧ w.cell? p3 = some v3 ∧ w.cell? p4 = some v4) : (w.alloc o).cell? p0 = some v0 ∧ (w.alloc o).cell? p1 = some v1 ∧ (w.alloc o).cell? p2 = some v2 ∧ (w.alloc o).cell? p3 = some v3 ∧ (w.alloc o).cell? p4 = some v4 := kB5 ((Below.refl _ _).alloc (Nat.le_refl _) _) h
theorem kS5 {p0 p1 p2 p3 p4 q : Addr} {v0 v1 v2 v3 v4 x : Value} (n0 : q.block ≠ p0.block) (n1 : q.block ≠ p1.block) (n2 : q.block ≠ p2.block) (n3 : q.block ≠ p3.block) (n4 : q.block ≠ p4.block) (h : w.cell? p0 = some v0 ∧ w.cell? p1 = some v1 ∧ w.cell? p2 = some v2 ∧ w.cell? p3 = some v3 ∧ w.cell? p4 = some v4) : (w.setCell q x).cell? p0 = some v0 ∧ (w.setCell q x).cell? p1 = some v1 ∧ (w.setCell q x).cell? p2 = some v2 ∧ (w.setCell q x).cell? p3 = some v3 ∧ (w.setCell q x).cell? p4 = some v4 := by
  obtain ⟨c0, c1, c2, c3, c4⟩ := h
  exact ⟨(World.cell?_setCell_far _ _ _ _ n0).trans c0, (World.cell?_setCell_far _ _ _ _ n1).trans c1, (World.cell?_setCell_far _ _ _ _ n2).trans c2, (World.cell?_setCell_far _ _ _ _ n3).trans c3, (World.cell?_setCell_far _ _ _ _ n4).trans c4⟩
theorem kG5 {p0 p1 p2 p3 p4 : Addr} {v0 v1 v2 v3 v4 : Value} {row : Option Nat} (hg : w.grownBy w' row) (n0 : some p0.block ≠ row) (n1 : some p1.block ≠ row) (n2 : some p2.block ≠ row) (n3 : some p3.block ≠ row) (n4 : some p4.block ≠ row) (h : w.cell? p0 = some v0 ∧ w.cell? p1 = some v1 ∧ w.cell? p2 = some v2 ∧ w.cell? p3 = some v3 ∧ w.cell? p4 = some v4) : w'.cell? p0 = some v0 ∧ w'.cell? p1 = some v1 ∧ w'.cell? p2 = some v2 ∧ w'.cell? p3 = some v3 ∧ w'.cell? p4 = some v4 := by
  obtain ⟨c0, c1, c2, c3, c4⟩ := h
  exact ⟨hg.cell c0 n0, hg.cell c1 n1, hg.cell c2 n2, hg.cell c3 n3, hg.cell c4 n4⟩
theorem kB6 {p0 p1 p2 p3 p4 p5 : Addr} {v0 v1 v2 v3 v4 v5 : Value} (hb : Below w.heap.size w w') (h : w.cell? p0 = some v0 ∧ w.cell? p1 = some v1 ∧ w.cell? p2 = some v2 ∧ w.cell? p3 = some v3 ∧ w.cell? p4 = some v4 ∧ w.cell? p5 = some v5) : w'.cell? p0 = some v0 ∧ w'.cell? p1 = some v1 ∧ w'.cell? p2 = some v2 ∧ w'.cell? p3 = some v3 ∧ w'.cell? p4 = some v4 ∧ w'.cell? p5 = some v5 := by
  obtain ⟨c0, c1, c2, c3, c4, c5⟩ := h
  exact ⟨kcell hb c0, kcell hb c1, kcell hb c2, kcell hb c3, kcell hb c4, kcell hb c5⟩
theorem kA6 {p0 p1 p2 p3 p4 p5 : Addr} {v0 v1 v2 v3 v4 v5 : Value} (o : Obj) (h : w.cell? p0 = some v0 ∧ w.cell? p1 = some v1 ∧ w.cell? p2 = some v2 ∧ w.cell? p3 = some v3 ∧ w.cell? p4 = some v4 ∧ w.cell? p5 = some v5) : (w.alloc o).cell? p0 = some v0 ∧ (w.alloc o).cell? p1 = some v1 ∧ (w.alloc o).cell? p2 = some v2 ∧ (w.alloc o).cell? p3 = some v3 ∧ (w.alloc o).cell? p4 = some v4 ∧ (w.alloc o).cell? p5 = some v5 := kB6 ((Below.refl _ _).alloc (Nat.le_refl _) _) h
theorem kS6 {p0 p1 p2 p3 p4 p5 q : Addr} {v0 v1 v2 v3 v4 v5 x : Value} (n0 : q.block ≠ p0.block) (n1 : q.block ≠ p1.block) (n2 : q.block ≠ p2.block) (n3 : q.block ≠ p3.block) (n4 : q.block ≠ p4.block) (n5 : q.block ≠ p5.block) (h : w.cell? p0 = some v0 ∧ w.cell? p1 = some v1 ∧ w.cell? p2 = some v2 ∧ w.cell? p3 = some v3 ∧ w.cell? p4 = some v4 ∧ w.cell? p5 = some v5) : (w.setCell q x).cell? p0 = some v0 ∧ (w.setCell q x).cell? p1 = some v1 ∧ (w.setCell q x).cell? p2 = some v2 ∧ (w.setCell q x).cell? p3 = some v3 ∧ (w.setCell q x).cell? p4 = some v4 ∧ (w.setCell q x).cell? p5 = some v5 := by
  obtain ⟨c0, c1, c2, c3, c4, c5⟩ := h
  exact ⟨(World.cell?_setCell_far _ _ _ _ n0).trans c0, (World.cell?_setCell_far _ _ _ _ n1).trans c1, (World.cell?_setCell_far _ _ _ _ n2).trans c2, (World.cell?_setCell_far _ _ _ _ n3).trans c3, (World.cell?_setCell_far _ _ _ _ n4).trans c4, (World.cell?_setCell_far _ _ _ _ n5).trans c5⟩
theorem kG6 {p0 p1 p2 p3 p4 p5 : Addr} {v0 v1 v2 v3 v4 v5 : Value} {row : Option Nat} (hg : w.grownBy w' row) (n0 : some p0.block ≠ row) (n1 : some p1.block ≠ row) (n2 : some p2.block ≠ row) (n3 : some p3.block ≠ row) (n4 : some p4.block ≠ row) (n5 : some p5.block ≠ row) (h : w.cell? p0 = some v0 ∧ w.cell? p1 = some v1 ∧ w.cell? p2 = some v2 ∧ w.cell? p3 = some v3 ∧ w.cell? p4 = some v4 ∧ w.cell? p5 = some v5) : w'.cell? p0 = some v0 ∧ w'.cell? p1 = some v1 ∧ w'.cell? p2 = some v2 ∧ w'.cell? p3 = some v3 ∧ w'.cell? p4 = some v4 ∧ w'.cell? p5 = some v5 := by
  obtain ⟨c0, c1, c2, c3, c4, c5⟩ := h
  exact ⟨hg.cell c0 n0, hg.cell c1 n1, hg.cell c2 n2, hg.cell c3 n3, hg.cell c4 n4, hg.cell c5 n5⟩
theorem kB7 {p0 p1 p2 p3 p4 p5 p6 : Addr} {v0 v1 v2 v3 v4 v5 v6 : Value} (hb : Below w.heap.size w w') (h : w.cell? p0 = some v0 ∧ w.cell? p1 = some v1 ∧ w.cell? p2 = some v2 ∧ w.cell? p3 = some v3 ∧ w.cell? p4 = some v4 ∧ w.cell? p5 = some v5 ∧ w.cell? p6 = some v6) : w'.cell? p0 = some v0 ∧ w'.cell? p1 = some v1 ∧ w'.cell? p2 = some v2 ∧ w'.cell? p3 = some v3 ∧ w'.cell? p4 = some v4 ∧ w'.cell? p5 = some v5 ∧ w'.cell? p6 = some v6 := by
  obtain ⟨c0, c1, c2, c3, c4, c5, c6⟩ := h
  exact ⟨kcell hb c0, kcell hb c1, kcell hb c2, kcell hb c3, kcell hb c4, kcell hb c5, kcell hb c6⟩
theorem kA7 {p0 p1 p2 p3 p4 p5 p6 : Addr} {v0 v1 v2 v3 v4 v5 v6 : Value} (o : Obj) (h : w.cell? p0 = some v0 ∧ w.cell? p1 = some v1 ∧ w.cell? p2 = some v2 ∧ w.cell? p3 = some v3 ∧ w.cell? p4 = some v4 ∧ w.cell? p5 = some v5 ∧ w.cell? p6 = some v6) : (w.alloc o).cell? p0 = some v0 ∧ (w.alloc o).cell? p1 = some v1 ∧ (w.alloc o).cell? p2 = some v2 ∧ (w.alloc o).cell? p3 = some v3 ∧ (w.alloc o).cell? p4 = some v4 ∧ (w.alloc o).cell? p5 = some v5 ∧ (w.alloc o).cell? p6 = some v6 := kB7 ((Below.refl _ _).alloc (Nat.le_refl _) _) h
theorem kS7 {p0 p1 p2 p3 p4 p5 p6 q : Addr} {v0 v1 v2 v3 v4 v5 v6 x : Value} (n0 : q.block ≠ p0.block) (n1 : q.block ≠ p1.block) (n2 : q.block ≠ p2.block) (n3 : q.block ≠ p3.block) (n4 : q.block ≠ p4.block) (n5 : q.block ≠ p5.block) (n6 : q.block ≠ p6.block) (h : w.cell? p0 = some v0 ∧ w.cell? p1 = some v1 ∧ w.cell? p2 = some v2 ∧ w.cell? p3 = some v3 ∧ w.cell? p4 = some v4 ∧ w.cell? p5 = some v5 ∧ w.cell? p6 = some v6) : (w.setCell q x).cell? p0 = some v0 ∧ (w.setCell q x).cell? p1 = some v1 ∧ (w.setCell q x).cell? p2 = some v2 ∧ (w.setCell q x).cell? p3 = some v3 ∧ (w.setCell q x).cell? p4 = some v4 ∧ (w.setCell q x).cell? p5 = some v5 ∧ (w.setCell q x).cell? p6 = some v6 := by
  obtain ⟨c0, c1, c2, c3, c4, c5, c6⟩ := h
  exact ⟨(World.cell?_setCell_far _ _ _ _ n0).trans c0, (World.cell?_setCell_far _ _ _ _ n1).trans c1, (World.cell?_setCell_far _ _ _ _ n2).trans c2, (World.cell?_setCell_far _ _ _ _ n3).trans c3, (World.cell?_setCell_far _ _ _ _ n4).trans c4, (World.cell?_setCell_far _ _ _ _ n5).trans c5, (World.cell?_setCell_far _ _ _ _ n6).trans c6⟩
theorem kG7 {p0 p1 p2 p3 p4 p5 p6 : Addr} {v0 v1 v2 v3 v4 v5 v6 : Value} {row : Option Nat} (hg : w.grownBy w' row) (n0 : some p0.block ≠ row) (n1 : some p1.block ≠ row) (n2 : some p2.block ≠ row) (n3 : some p3.block ≠ row) (n4 : some p4.block ≠ row) (n5 : some p5.block ≠ row) (n6 : some p6.block ≠ row) (h : w.cell? p0 = some v0 ∧ w.cell? p1 = some v1 ∧ w.cell? p2 = some v2 ∧ w.cell? p3 = some v3 ∧ w.cell? p4 = some v4 ∧ w.cell? p5 = some v5 ∧ w.cell? p6 = some v6) : w'.cell? p0 = some v0 ∧ w'.cell? p1 = some v1 ∧ w'.cell? p2 = some v2 ∧ w'.cell? p3 = some v3 ∧ w'.cell? p4 = some v4 ∧ w'.cell? p5 = some v5 ∧ w'.cell? p6 = some v6 := by
  obtain ⟨c0, c1, c2, c3, c4, c5, c6⟩ := h
  exact ⟨hg.cell c0 n0, hg.cell c1 n1, hg.cell c2 n2, hg.cell c3 n3, hg.cell c4 n4, hg.cell c5 n5, hg.cell c6 n6⟩
theorem kB8 {p0 p1 p2 p3 p4 p5 p6 p7 : Addr} {v0 v1 v2 v3 v4 v5 v6 v7 : Value} (hb : Below w.heap.size w w') (h : w.cell? p0 = some v0 ∧ w.cell? p1 = some v1 ∧ w.cell? p2 = some v2 ∧ w.cell? p3 = some v3 ∧ w.cell? p4 = some v4 ∧ w.cell? p5 = some v5 ∧ w.cell? p6 = some v6 ∧ w.cell? p7 = some v7) : w'.cell? p0 = some v0 ∧ w'.cell? p1 = some v1 ∧ w'.cell? p2 = some v2 ∧ w'.cell? p3 = some v3 ∧ w'.cell? p4 = some v4 ∧ w'.cell? p5 = some v5 ∧ w'.cell? p6 = some v6 ∧ w'.cell? p7 = some v7 := by
  obtain ⟨c0, c1, c2, c3, c4, c5, c6, c7⟩ := h
  exact ⟨kcell hb c0, kcell hb c1, kcell hb c2, kcell hb c3, kcell hb c4, kcell hb c5, kcell hb c6, kcell hb c7⟩
theorem kA8 {p0 p1 p2 p3 p4 p5 p6 p7 : Addr} {v0 v1 v2 v3 v4 v5 v6 v7 : Value} (o : Obj) (h : w.cell? p0 = some v0 ∧ w.cell? p1 = some v1 ∧ w.cell? p2 = some v2 ∧ w.cell? p3 = some v3 ∧ w.cell? p4 = some v4 ∧ w.cell? p5 = some v5 ∧ w.cell? p6 = some v6 ∧ w.cell? p7 = some v7) : (w.alloc o).cell? p0 = some v0 ∧ (w.alloc o).cell? p1 = some v1 ∧ (w.alloc o).cell? p2 = some v2 ∧ (w.alloc o).cell? p3 = some v3 ∧ (w.alloc o).cell? p4 = some v4 ∧ (w.alloc o).cell? p5 = some v5 ∧ (w.alloc o).cell? p6 = some v6 ∧ (w.alloc o).cell? p7 = some v7 := kB8 ((Below.refl _ _).alloc (Nat.le_refl _) _) h
theorem kS8 {p0 p1 p2 p3 p4 p5 p6 p7 q : Addr} {v0 v1 v2 v3 v4 v5 v6 v7 x : Value} (n0 : q.block ≠ p0.block) (n1 : q.block ≠ p1.block) (n2 : q.block ≠ p2.block) (n3 : q.block ≠ p3.block) (n4 : q.block ≠ p4.block) (n5 : q.block ≠ p5.block) (n6 : q.block ≠ p6.block) (n7 : q.block ≠ p7.block) (h : w.cell? p0 = some v0 ∧ w.cell? p1 = some v1 ∧ w.cell? p2 = some v2 ∧ w.cell? p3 = some v3 ∧ w.cell? p4 = some v4 ∧ w.cell? p5 = some v5 ∧ w.cell? p6 = some v6 ∧ w.cell? p7 = some v7) : (w.setCell q x).cell? p0 = some v0 ∧ (w.setCell q x).cell? p1 = some v1 ∧ (w.setCell q x).cell? p2 = some v2 ∧ (w.setCell q x).cell? p3 = some v3 ∧ (w.setCell q x).cell? p4 = some v4 ∧ (w.setCell q x).cell? p5 = some v5 ∧ (w.setCell q x).cell? p6 = some v6 ∧ (w.setCell q x).cell? p7 = some v7 := by
  obtain ⟨c0, c1, c2, c3, c4, c5, c6, c7⟩ := h
  exact ⟨(World.cell?_setCell_far _ _ _ _ n0).trans c0, (World.cell?_setCell_far _ _ _ _ n1).trans c1, (World.cell?_setCell_far _ _ _ _ n2).trans c2, (World.cell?_setCell_far _ _ _ _ n3).trans c3, (World.cell?_setCell_far _ _ _ _ n4).trans c4, (World.cell?_setCell_far _ _ _ _ n5).trans c5, (World.cell?_setCell_far _ _ _ _ n6).trans c6, (World.cell?_setCell_far _ _ _ _ n7).trans c7⟩
theorem kG8 {p0 p1 p2 p3 p4 p5 p6 p7 : Addr} {v0 v1 v2 v3 v4 v5 v6 v7 : Value} {row : Option Nat} (hg : w.grownBy w' row) (n0 : some p0.block ≠ row) (n1 : some p1.block ≠ row) (n2 : some p2.block ≠ row) (n3 : some p3.block ≠ row) (n4 : some p4.block ≠ row) (n5 : some p5.block ≠ row) (n6 : some p6.block ≠ row) (n7 : some p7.block ≠ row) (h : w.cell? p0 = some v0 ∧ w.cell? p1 = some v1 ∧ w.cell? p2 = some v2 ∧ w.cell? p3 = some v3 ∧ w.cell? p4 = some v4 ∧ w.cell? p5 = some v5 ∧ w.cell? p6 = some v6 ∧ w.cell? p7 = some v7) : w'.cell? p0 = some v0 ∧ w'.cell? p1 = some v1 ∧ w'.cell? p2 = some v2 ∧ w'.cell? p3 = some v3 ∧ w'.cell? p4 = some v4 ∧ w'.cell? p5 = some v5 ∧ w'.cell? p6 = some v6 ∧ w'.cell? p7 = some v7 := by
  obtain ⟨c0, c1, c2, c3, c4, c5, c6, c7⟩ := h
  exact ⟨hg.cell c0 n0, hg.cell c1 n1, hg.cell c2 n2, hg.cell c3 n3, hg.cell c4 n4, hg.cell c5 n5, hg.cell c6 n6, hg.cell c7 n7⟩
theorem kB9 {p0 p1 p2 p3 p4 p5 p6 p7 p8 : Addr} {v0 v1 v2 v3 v4 v5 v6 v7 v8 : Value} (hb : Below w.heap.size w w') (h : w.cell? p0 = some v0 ∧ w.cell? p1 = some v1 ∧ w.cell? p2 = some v2 ∧ w.cell? p3 = some v3 ∧ w.cell? p4 = some v4 ∧ w.cell? p5 = some v5 ∧ w.cell? p6 = some v6 ∧ w.cell? p7 = some v7 ∧ w.cell? p8 = some v8) : w'.cell? p0 = some v0 ∧ w'.cell? p1 = some v1 ∧ w'.cell? p2 = some v2 ∧ w'.cell? p3 = some v3 ∧ w'.cell? p4 = some v4 ∧ w'.cell? p5 = some v5 ∧ w'.cell? p6 = some v6 ∧ w'.cell? p7 = some v7 ∧ w'.cell? p8 = some v8 := by
  obtain ⟨c0, c1, c2, c3, c4, c5, c6, c7, c8⟩ := h
  exact ⟨kcell hb c0, kcell hb c1, kcell hb c2, kcell hb c3, kcell hb c4, kcell hb c5, kcell hb c6, kcell hb c7, kcell hb c8⟩
theorem kA9 {p0 p1 p2 p3 p4 p5 p6 p7 p8 : Addr} {v0 v1 v2 v3 v4 v5 v6 v7 v8 : Value} (o : Obj) (h : w.cell? p0 = some v0 ∧ w.cell? p1 = some v1 ∧ w.cell? p2 = some v2 ∧ w.cell? p3 = some v3 ∧ w.cell? p4 = some v4 ∧ w.cell? p5 = some v5 ∧ w.cell? p6 = some v6 ∧ w.cell? p7 = some v7 ∧ w.cell? p8 = some v8) : (w.alloc o).cell? p0 = some v0 ∧ (w.alloc o).cell? p1 = some v1 ∧ (w.alloc o).cell? p2 = some v2 ∧ (w.alloc o).cell? p3 = some v3 ∧ (w.alloc o).cell? p4 = some v4 ∧ (w.alloc o).cell? p5 = some v5 ∧ (w.alloc o).cell? p6 = some v6 ∧ (w.alloc o).cell? p7 = some v7 ∧ (w.alloc o).cell? p8 = some v8 := kB9 ((Below.refl _ _).alloc (Nat.le_refl _) _) h
theorem kS9 {p0 p1 p2 p3 p4 p5 p6 p7 p8 q : Addr} {v0 v1 v2 v3 v4 v5 v6 v7 v8 x : Value} (n0 : q.block ≠ p0.block) (n1 : q.block ≠ p1.block) (n2 : q.block ≠ p2.block) (n3 : q.block ≠ p3.block) (n4 : q.block ≠ p4.block) (n5 : q.block ≠ p5.block) (n6 : q.block ≠ p6.block) (n7 : q.block ≠ p7.block) (n8 : q.block ≠ p8.block) (h : w.cell? p0 = some v0 ∧ w.cell? p1 = some v1 ∧ w.cell? p2 = some v2 ∧ w.cell? p3 = some v3 ∧ w.cell? p4 = some v4 ∧ w.cell? p5 = some v5 ∧ w.cell? p6 = some v6 ∧ w.cell? p7 = some v7 ∧ w.cell? p8 = some v8) : (w.setCell q x).cell? p0 = some v0 ∧ (w.setCell q x).cell? p1 = some v1 ∧ (w.setCell q x).cell? p2 = some v2 ∧ (w.setCell q x).cell? p3 = some v3 ∧ (w.setCell q x).cell? p4 = some v4 ∧ (w.setCell q x).cell? p5 = some v5 ∧ (w.setCell q x).cell? p6 = some v6 ∧ (w.setCell q x).cell? p7 = some v7 ∧ (w.setCell q x).cell? p8 = some v8 := by
  obtain ⟨c0, c1, c2, c3, c4, c5, c6, c7, c8⟩ := h
  exact ⟨(World.cell?_setCell_far _ _ _ _ n0).trans c0, (World.cell?_setCell_far _ _ _ _ n1).trans c1, (World.cell?_setCell_far _ _ _ _ n2).trans c2, (World.cell?_setCell_far _ _ _ _ n3).trans c3, (World.cell?_setCell_far _ _ _ _ n4).trans c4, (World.cell?_setCell_far _ _ _ _ n5).trans c5, (World.cell?_setCell_far _ _ _ _ n6).trans c6, (World.cell?_setCell_far _ _ _ _ n7).trans c7, (World.cell?_setCell_far _ _ _ _ n8).trans c8⟩
theorem kG9 {p0 p1 p2 p3 p4 p5 p6 p7 p8 : Addr} {v0 v1 v2 v3 v4 v5 v6 v7 v8 : Value} {row : Option Nat} (hg : w.grownBy w' row) (n0 : some p0.block ≠ row) (n1 : some p1.block ≠ row) (n2 : some p2.block ≠ row) (n3 : some p3.block ≠ row) (n4 : some p4.block ≠ row) (n5 : some p5.block ≠ row) (n6 : some p6.block ≠ row) (n7 : some p7.block ≠ row) (n8 : some p8.block ≠ row) (h : w.cell? p0 = some v0 ∧ w.cell? p1 = some v1 ∧ w.cell? p2 = some v2 ∧ w.cell? p3 = some v3 ∧ w.cell? p4 = some v4 ∧ w.cell? p5 = some v5 ∧ w.cell? p6 = some v6 ∧ w.cell? p7 = some v7 ∧ w.cell? p8 = some v8) : w'.cell? p0 = some v0 ∧ w'.cell? p1 = some v1 ∧ w'.cell? p2 = some v2 ∧ w'.cell? p3 = some v3 ∧ w'.cell? p4 = some v4 ∧ w'.cell? p5 = some v5 ∧ w'.cell? p6 = some v6 ∧ w'.cell? p7 = some v7 ∧ w'.cell? p8 = some v8 := by
  obtain ⟨c0, c1, c2, c3, c4, c5, c6, c7, c8⟩ := h
  exact ⟨hg.cell c0 n0, hg.cell c1 n1, hg.cell c2 n2, hg.cell c3 n3, hg.cell c4 n4, hg.cell c5 n5, hg.cell c6 n6, hg.cell c7 n7, hg.cell c8 n8⟩
theorem kB10 {p0 p1 p2 p3 p4 p5 p6 p7 p8 p9 : Addr} {v0 v1 v2 v3 v4 v5 v6 v7 v8 v9 : Value} (hb : Below w.heap.size w w') (h : w.cell? p0 = some v0 ∧ w.cell? p1 = some v1 ∧ w.cell? p2 = some v2 ∧ w.cell? p3 = some v3 ∧ w.cell? p4 = some v4 ∧ w.cell? p5 = some v5 ∧ w.cell? p6 = some v6 ∧ w.cell? p7 = some v7 ∧ w.cell? p8 = some v8 ∧ w.cell? p9 = some v9) : w'.cell? p0 = some v0 ∧ w'.cell? p1 = some v1 ∧ w'.cell? p2 = some v2 ∧ w'.cell? p3 = some v3 ∧ w'.cell? p4 = some v4 ∧ w'.cell? p5 = some v5 ∧ w'.cell? p6 = some v6 ∧ w'.cell? p7 = some v7 ∧ w'.cell? p8 = some v8 ∧ w'.cell? p9 = some v9 := by
  obtain ⟨c0, c1, c2, c3, c4, c5, c6, c7, c8, c9⟩ := h
  exact ⟨kcell hb c0, kcell hb c1, kcell hb c2, kcell hb c3, kcell hb c4, kcell hb c5, kcell hb c6, kcell hb c7, kcell hb c8, kcell hb c9⟩
theorem kA10 {p0 p1 p2 p3 p4 p5 p6 p7 p8 p9 : Addr} {v0 v1 v2 v3 v4 v5 v6 v7 v8 v9 : Value} (o : Obj) (h : w.cell? p0 = some v0 ∧ w.cell? p1 = some v1 ∧ w.cell? p2 = some v2 ∧ w.cell? p3 = some v3 ∧ w.cell? p4 = some v4 ∧ w.cell? p5 = some v5 ∧ w.cell? p6 = some v6 ∧ w.cell? p7 = some v7 ∧ w.cell? p8 = some v8 ∧ w.cell? p9 = some v9) : (w.alloc o).cell? p0 = some v0 ∧ (w.alloc o).cell? p1 = some v1 ∧ (w.alloc o).cell? p2 = some v2 ∧ (w.alloc o).cell? p3 = some v3 ∧ (w.alloc o).cell? p4 = some v4 ∧ (w.alloc o).cell? p5 = some v5 ∧ (w.alloc o).cell? p6 = some v6 ∧ (w.alloc o).cell? p7 = some v7 ∧ (w.alloc o).cell? p8 = some v8 ∧ (w.alloc o).cell? p9 = some v9 := kB10 ((Below.refl _ _).alloc (Nat.le_refl _) _) h
theorem kS10 {p0 p1 p2 p3 p4 p5 p6 p7 p8 p9 q : Addr} {v0 v1 v2 v3 v4 v5 v6 v7 v8 v9 x : Value} (n0 : q.block ≠ p0.block) (n1 : q.block ≠ p1.block) (n2 : q.block ≠ p2.block) (n3 : q.block ≠ p3.block) (n4 : q.block ≠ p4.block) (n5 : q.block ≠ p5.block) (n6 : q.block ≠ p6.block) (n7 : q.block ≠ p7.block) (n8 : q.block ≠ p8.block) (n9 : q.block ≠ p9.block) (h : w.cell? p0 = some v0 ∧ w.cell? p1 = some v1 ∧ w.cell? p2 = some v2 ∧ w.cell? p3 = some v3 ∧ w.cell? p4 = some v4 ∧ w.cell? p5 = some v5 ∧ w.cell? p6 = some v6 ∧ w.cell? p7 = some v7 ∧ w.cell? p8 = some v8 ∧ w.cell? p9 = some v9) : (w.setCell q x).cell? p0 = some v0 ∧ (w.setCell q x).cell? p1 = some v1 ∧ (w.setCell q x).cell? p2 = some v2 ∧ (w.setCell q x).cell? p3 = some v3 ∧ (w.setCell q x).cell? p4 = some v4 ∧ (w.setCell q x).cell? p5 = some v5 ∧ (w.setCell q x).cell? p6 = some v6 ∧ (w.setCell q x).cell? p7 = some v7 ∧ (w.setCell q x).cell? p8 = some v8 ∧ (w.setCell q x).cell? p9 = some v9 := by
  obtain ⟨c0, c1, c2, c3, c4, c5, c6, c7, c8, c9⟩ := h
  exact ⟨(World.cell?_setCell_far _ _ _ _ n0).trans c0, (World.cell?_setCell_far _ _ _ _ n1).trans c1, (World.cell?_setCell_far _ _ _ _ n2).trans c2, (World.cell?_setCell_far _ _ _ _ n3).trans c3, (World.cell?_setCell_far _ _ _ _ n4).trans c4, (World.cell?_setCell_far _ _ _ _ n5).trans c5, (World.cell?_setCell_far _ _ _ _ n6).trans c6, (World.cell?_setCell_far _ _ _ _ n7).trans c7, (World.cell?_setCell_far _ _ _ _ n8).trans c8, (World.cell?_setCell_far _ _ _ _ n9).trans c9⟩
theorem kG10 {p0 p1 p2 p3 p4 p5 p6 p7 p8 p9 : Addr} {v0 v1 v2 v3 v4 v5 v6 v7 v8 v9 : Value} {row : Option Nat} (hg : w.grownBy w' row) (n0 : some p0.block ≠ row) (n1 : some p1.block ≠ row) (n2 : some p2.block ≠ row) (n3 : some p3.block ≠ row) (n4 : some p4.block ≠ row) (n5 : some p5.block ≠ row) (n6 : some p6.block ≠ row) (n7 : some p7.block ≠ row) (n8 : some p8.block ≠ row) (n9 : some p9.block ≠ row) (h : w.cell? p0 = some v0 ∧ w.cell? p1 = some v1 ∧ w.cell? p2 = some v2 ∧ w.cell? p3 = some v3 ∧ w.cell? p4 = some v4 ∧ w.cell? p5 = some v5 ∧ w.cell? p6 = some v6 ∧ w.cell? p7 = some v7 ∧ w.cell? p8 = some v8 ∧ w.cell? p9 = some v9) : w'.cell? p0 = some v0 ∧ w'.cell? p1 = some v1 ∧ w'.cell? p2 = some v2 ∧ w'.cell? p3 = some v3 ∧ w'.cell? p4 = some v4 ∧ w'.cell? p5 = some v5 ∧ w'.cell? p6 = some v6 ∧ w'.cell? p7 = some v7 ∧ w'.cell? p8 = some v8 ∧ w'.cell? p9 = some v9 := by
  obtain ⟨c0, c1, c2, c3, c4, c5, c6, c7, c8, c9⟩ := h
  exact ⟨hg.cell c0 n0, hg.cell c1 n1, hg.cell c2 n2, hg.cell c3 n3, hg.cell c4 n4, hg.cell c5 n5, hg.cell c6 n6, hg.cell c7 n7, hg.cell c8 n8, hg.cell c9 n9⟩
theorem kB11 {p0 p1 p2 p3 p4 p5 p6 p7 p8 p9 p10 : Addr} {v0 v1 v2 v3 v4 v5 v6 v7 v8 v9 v10 : Value} (hb : Below w.heap.size w w') (h : w.cell? p0 = some v0 ∧ w.cell? p1 = some v1 ∧ w.cell? p2 = some v2 ∧ w.cell? p3 = some v3 ∧ w.cell? p4 = some v4 ∧ w.cell? p5 = some v5 ∧ w.cell? p6 = some v6 ∧ w.cell? p7 = some v7 ∧ w.cell? p8 = some v8 ∧ w.cell? p9 = some v9 ∧ w.cell? p10 = some v10) : w'.cell? p0 = some v0 ∧ w'.cell? p1 = some v1 ∧ w'.cell? p2 = some v2 ∧ w'.cell? p3 = some v3 ∧ w'.cell? p4 = some v4 ∧ w'.cell? p5 = some v5 ∧ w'.cell? p6 = some v6 ∧ w'.cell? p7 = some v7 ∧ w'.cell? p8 = some v8 ∧ w'.cell? p9 = some v9 ∧ w'.cell? p10 = some v10 := by
  obtain ⟨c0, c1, c2, c3, c4, c5, c6, c7, c8, c9, c10⟩ := h
  exact ⟨kcell hb c0, kcell hb c1, kcell hb c2, kcell hb c3, kcell hb c4, kcell hb c5, kcell hb c6, kcell hb c7, kcell hb c8, kcell hb c9, kcell hb c10⟩
theorem kA11 {p0 p1 p2 p3 p4 p5 p6 p7 p8 p9 p10 : Addr} {v0 v1 v2 v3 v4 v5 v6 v7 v8 v9 v10 : Value} (o : Obj) (h : w.cell? p0 = some v0 ∧ w.cell? p1 = some v1 ∧ w.cell? p2 = some v2 ∧ w.cell? p3 = some v3 ∧ w.cell? p4 = some v4 ∧ w.cell? p5 = some v5 ∧ w.cell? p6 = some v6 ∧ w.cell? p7 = some v7 ∧ w.cell? p8 = some v8 ∧ w.cell? p9 = some v9 ∧ w.cell? p10 = some v10) : (w.alloc o).cell? p0 = some v0 ∧ (w.alloc o).cell? p1 = some v1 ∧ (w.alloc o).cell? p2 = some v2 ∧ (w.alloc o).cell? p3 = some v3 ∧ (w.alloc o).cell? p4 = some v4 ∧ (w.alloc o).cell? p5 = some v5 ∧ (w.alloc o).cell? p6 = some v6 ∧ (w.alloc o).cell? p7 = some v7 ∧ (w.alloc o).cell? p8 = some v8 ∧ (w.alloc o).cell? p9 = some v9 ∧ (w.alloc o).cell? p10 = some v10 := kB11 ((Below.refl _ _).alloc (Nat.le_refl _) _) h
theorem kS11 {p0 p1 p2 p3 p4 p5 p6 p7 p8 p9 p10 q : Addr} {v0 v1 v2 v3 v4 v5 v6 v7 v8 v9 v10 x : Value} (n0 : q.block ≠ p0.block) (n1 : q.block ≠ p1.block) (n2 : q.block ≠ p2.block) (n3 : q.block ≠ p3.block) (n4 : q.block ≠ p4.block) (n5 : q.block ≠ p5.block) (n6 : q.block ≠ p6.block) (n7 : q.block ≠ p7.block) (n8 : q.block ≠ p8.block) (n9 : q.block ≠ p9.block) (n10 : q.block ≠ p10.block) (h : w.cell? p0 = some v0 ∧ w.cell? p1 = some v1 ∧ w.cell? p2 = some v2 ∧ w.cell? p3 = some v3 ∧ w.cell? p4 = some v4 ∧ w.cell? p5 = some v5 ∧ w.cell? p6 = some v6 ∧ w.cell? p7 = some v7 ∧ w.cell? p8 = some v8 ∧ w.cell? p9 = some v9 ∧ w.cell? p10 = some v10) : (w.setCell q x).cell? p0 = some v0 ∧ (w.setCell q x).cell? p1 = some v1 ∧ (w.setCell q x).cell? p2 = some v2 ∧ (w.setCell q x).cell? p3 = some v3 ∧ (w.setCell q x).cell? p4 = some v4 ∧ (w.setCell q x).cell? p5 = some v5 ∧ (w.setCell q x).cell? p6 = some v6 ∧ (w.setCell q x).cell? p7 = some v7 ∧ (w.setCell q x).cell? p8 = some v8 ∧ (w.setCell q x).cell? p9 = some v9 ∧ (w.setCell q x).cell? p10 = some v10 := by
  obtain ⟨c0, c1, c2, c3, c4, c5, c6, c7, c8, c9, c10⟩ := h
  exact ⟨(World.cell?_setCell_far _ _ _ _ n0).trans c0, (World.cell?_setCell_far _ _ _ _ n1).trans c1, (World.cell?_setCell_far _ _ _ _ n2).trans c2, (World.cell?_setCell_far _ _ _ _ n3).trans c3, (World.cell?_setCell_far _ _ _ _ n4).trans c4, (World.cell?_setCell_far _ _ _ _ n5).trans c5, (World.cell?_setCell_far _ _ _ _ n6).trans c6, (World.cell?_setCell_far _ _ _ _ n7).trans c7, (World.cell?_setCell_far _ _ _ _ n8).trans c8, (World.cell?_setCell_far _ _ _ _ n9).trans c9, (World.cell?_setCell_far _ _ _ _ n10).trans c10⟩
theorem kG11 {p0 p1 p2 p3 p4 p5 p6 p7 p8 p9 p10 : Addr} {v0 v1 v2 v3 v4 v5 v6 v7 v8 v9 v10 : Value} {row : Option Nat} (hg : w.grownBy w' row) (n0 : some p0.block ≠ row) (n1 : some p1.block ≠ row) (n2 : some p2.block ≠ row) (n3 : some p3.block ≠ row) (n4 : some p4.block ≠ row) (n5 : some p5.block ≠ row) (n6 : some p6.block ≠ row) (n7 : some p7.block ≠ row) (n8 : some p8.block ≠ row) (n9 : some p9.block ≠ row) (n10 : some p10.block ≠ row) (h : w.cell? p0 = some v0 ∧ w.cell? p1 = some v1 ∧ w.cell? p2 = some v2 ∧ w.cell? p3 = some v3 ∧ w.cell? p4 = some v4 ∧ w.cell? p5 = some v5 ∧ w.cell? p6 = some v6 ∧ w.cell? p7 = some v7 ∧ w.cell? p8 = some v8 ∧ w.cell? p9 = some v9 ∧ w.cell? p10 = some v10) : w'.cell? p0 = some v0 ∧ w'.cell? p1 = some v1 ∧ w'.cell? p2 = some v2 ∧ w'.cell? p3 = some v3 ∧ w'.cell? p4 = some v4 ∧ w'.cell? p5 = some v5 ∧ w'.cell? p6 = some v6 ∧ w'.cell? p7 = some v7 ∧ w'.cell? p8 = some v8 ∧ w'.cell? p9 = some v9 ∧ w'.cell? p10 = some v10 := by
  obtain ⟨c0, c1, c2, c3, c4, c5, c6, c7, c8, c9, c10⟩ := h
  exact ⟨hg.cell c0 n0, hg.cell c1 n1, hg.cell c2 n2, hg.cell c3 n3, hg.cell c4 n4, hg.cell c5 n5, hg.cell c6 n6, hg.cell c7 n7, hg.cell c8 n8, hg.cell c9 n9, hg.cell c10 n10⟩
theorem kB12 {p0 p1 p2 p3 p4 p5 p6 p7 p8 p9 p10 p11 : Addr} {v0 v1 v2 v3 v4 v5 v6 v7 v8 v9 v10 v11 : Value} (hb : Below w.heap.size w w') (h : w.cell? p0 = some v0 ∧ w.cell? p1 = some v1 ∧ w.cell? p2 = some v2 ∧ w.cell? p3 = some v3 ∧ w.cell? p4 = some v4 ∧ w.cell? p5 = some v5 ∧ w.cell? p6 = some v6 ∧ w.cell? p7 = some v7 ∧ w.cell? p8 = some v8 ∧ w.cell? p9 = some v9 ∧ w.cell? p10 = some v10 ∧ w.cell? p11 = some v11) : w'.cell? p0 = some v0 ∧ w'.cell? p1 = some v1 ∧ w'.cell? p2 = some v2 ∧ w'.cell? p3 = some v3 ∧ w'.cell? p4 = some v4 ∧ w'.cell? p5 = some v5 ∧ w'.cell? p6 = some v6 ∧ w'.cell? p7 = some v7 ∧ w'.cell? p8 = some v8 ∧ w'.cell? p9 = some v9 ∧ w'.cell? p10 = some v10 ∧ w'.cell? p11 = some v11 := by
  obtain ⟨c0, c1, c2, c3, c4, c5, c6, c7, c8, c9, c10, c11⟩ := h
  exact ⟨kcell hb c0, kcell hb c1, kcell hb c2, kcell hb c3, kcell hb c4, kcell hb c5, kcell hb c6, kcell hb c7, kcell hb c8, kcell hb c9, kcell hb c10, kcell hb c11⟩
theorem kA12 {p0 p1 p2 p3 p4 p5 p6 p7 p8 p9 p10 p11 : Addr} {v0 v1 v2 v3 v4 v5 v6 v7 v8 v9 v10 v11 : Value} (o : Obj) (h : w.cell? p0 = some v0 ∧ w.cell? p1 = some v1 ∧ w.cell? p2 = some v2 ∧ w.cell? p3 = some v3 ∧ w.cell? p4 = some v4 ∧ w.cell? p5 = some v5 ∧ w.cell? p6 = some v6 ∧ w.cell? p7 = some v7 ∧ w.cell? p8 = some v8 ∧ w.cell? p9 = some v9 ∧ w.cell? p10 = some v10 ∧ w.cell? p11 = some v11) : (w.alloc o).cell? p0 = some v0 ∧ (w.alloc o).cell? p1 = some v1 ∧ (w.alloc o).cell? p2 = some v2 ∧ (w.alloc o).cell? p3 = some v3 ∧ (w.alloc o).cell? p4 = some v4 ∧ (w.alloc o).cell? p5 = some v5 ∧ (w.alloc o).cell? p6 = some v6 ∧ (w.alloc o).cell? p7 = some v7 ∧ (w.alloc o).cell? p8 = some v8 ∧ (w.alloc o).cell? p9 = some v9 ∧ (w.alloc o).cell? p10 = some v10 ∧ (w.alloc o).cell? p11 = some v11 := kB12 ((Below.refl _ _).alloc (Nat.le_refl _) _) h
theorem kS12 {p0 p1 p2 p3 p4 p5 p6 p7 p8 p9 p10 p11 q : Addr} {v0 v1 v2 v3 v4 v5 v6 v7 v8 v9 v10 v11 x : Value} (n0 : q.block ≠ p0.block) (n1 : q.block ≠ p1.block) (n2 : q.block ≠ p2.block) (n3 : q.block ≠ p3.block) (n4 : q.block ≠ p4.block) (n5 : q.block ≠ p5.block) (n6 : q.block ≠ p6.block) (n7 : q.block ≠ p7.block) (n8 : q.block ≠ p8.block) (n9 : q.block ≠ p9.block) (n10 : q.block ≠ p10.block) (n11 : q.block ≠ p11.block) (h : w.cell? p0 = some v0 ∧ w.cell? p1 = some v1 ∧ w.cell? p2 = some v2 ∧ w.cell? p3 = some v3 ∧ w.cell? p4 = some v4 ∧ w.cell? p5 = some v5 ∧ w.cell? p6 = some v6 ∧ w.cell? p7 = some v7 ∧ w.cell? p8 = some v8 ∧ w.cell? p9 = some v9 ∧ w.cell? p10 = some v10 ∧ w.cell? p11 = some v11) : (w.setCell q x).cell? p0 = some v0 ∧ (w.setCell q x).cell? p1 = some v1 ∧ (w.setCell q x).cell? p2 = some v2 ∧ (w.setCell q x).cell? p3 = some v3 ∧ (w.setCell q x).cell? p4 = some v4 ∧ (w.setCell q x).cell? p5 = some v5 ∧ (w.setCell q x).cell? p6 = some v6 ∧ (w.setCell q x).cell? p7 = some v7 ∧ (w.setCell q x).cell? p8 = some v8 ∧ (w.setCell q x).cell? p9 = some v9 ∧ (w.setCell q x).cell? p10 = some v10 ∧ (w.setCell q x).cell? p11 = some v11 := by
  obtain ⟨c0, c1, c2, c3, c4, c5, c6, c7, c8, c9, c10, c11⟩ := h
  exact ⟨(World.cell?_setCell_far _ _ _ _ n0).trans c0, (World.cell?_setCell_far _ _ _ _ n1).trans c1, (World.cell?_setCell_far _ _ _ _ n2).trans c2, (World.cell?_setCell_far _ _ _ _ n3).trans c3, (World.cell?_setCell_far _ _ _ _ n4).trans c4, (World.cell?_setCell_far _ _ _ _ n5).trans c5, (World.cell?_setCell_far _ _ _ _ n6).trans c6, (World.cell?_setCell_far _ _ _ _ n7).trans c7, (World.cell?_setCell_far _ _ _ _ n8).trans c8, (World.cell?_setCell_far _ _ _ _ n9).trans c9, (World.cell?_setCell_far _ _ _ _ n10).trans c10, (World.cell?_setCell_far _ _ _ _ n11).trans c11⟩
theorem kG12 {p0 p1 p2 p3 p4 p5 p6 p7 p8 p9 p10 p11 : Addr} {v0 v1 v2 v3 v4 v5 v6 v7 v8 v9 v10 v11 : Value} {row : Option Nat} (hg : w.grownBy w' row) (n0 : some p0.block ≠ row) (n1 : some p1.block ≠ row) (n2 : some p2.block ≠ row) (n3 : some p3.block ≠ row) (n4 : some p4.block ≠ row) (n5 : some p5.block ≠ row) (n6 : some p6.block ≠ row) (n7 : some p7.block ≠ row) (n8 : some p8.block ≠ row) (n9 : some p9.block ≠ row) (n10 : some p10.block ≠ row) (n11 : some p11.block ≠ row) (h : w.cell? p0 = some v0 ∧ w.cell? p1 = some v1 ∧ w.cell? p2 = some v2 ∧ w.cell? p3 = some v3 ∧ w.cell? p4 = some v4 ∧ w.cell? p5 = some v5 ∧ w.cell? p6 = some v6 ∧ w.cell? p7 = some v7 ∧ w.cell? p8 = some v8 ∧ w.cell? p9 = some v9 ∧ w.cell? p10 = some v10 ∧ w.cell? p11 = some v11) : w'.cell? p0 = some v0 ∧ w'.cell? p1 = some v1 ∧ w'.cell? p2 = some v2 ∧ w'.cell? p3 = some v3 ∧ w'.cell? p4 = some v4 ∧ w'.cell? p5 = some v5 ∧ w'.cell? p6 = some v6 ∧ w'.cell? p7 = some v7 ∧ w'.cell? p8 = some v8 ∧ w'.cell? p9 = some v9 ∧ w'.cell? p10 = some v10 ∧ w'.cell? p11 = some v11 := by
  obtain ⟨c0, c1, c2, c3, c4, c5, c6, c7, c8, c9, c10, c11⟩ := h
  exact ⟨hg.cell c0 n0, hg.cell c1 n1, hg.cell c2 n2, hg.cell c3 n3, hg.cell c4 n4, hg.cell c5 n5, hg.cell c6 n6, hg.cell c7 n7, hg.cell c8 n8, hg.cell c9 n9, hg.cell c10 n10, hg.cell c11 n11⟩
end
end Go.Proofs.Ytmlfkledhnlkeaa

/- A region that draws its order: loads come first under a condition S that is asked before its last operations alone (a store to a cell that the region loads). Over any program. -/
namespace Go.Proofs.Ytmlfkledhnlkeaa
set_option linter.unusedVariables false
set_option linter.unusedSimpArgs false
open Go.RowKit

section
variable {P : Program} {ops : Array Oper} {Q : Exit → Act → World → Prop} {md : Region.Mode} {S : World → Prop} {n : Nat}

/-- whatever order is picked; S holds behind each operation below n -/
def wpAnyF (P : Program) (md : Region.Mode) (ops : Array Oper) (Q : Exit → Act → World → Prop) (S : World → Prop) (n : Nat) : Nat → Array Bool → Act → World → Prop
  | 0, listed, a, w => Region.ready md ops listed = [] ∧ Q .normal a w
  | f + 1, listed, a, w => (Region.ready md ops listed = [] → Q .normal a w) ∧
    ∀ i ∈ Region.ready md ops listed, wpOp P ops Q i (fun a' w' => (i < n → S w') ∧ wpAnyF P md ops Q S n f (listed.setIfInBounds i true) a' w') a w
theorem F_any : ∀ (f : Nat) (listed : Array Bool) (a : Act) (w : World), wpAnyF P md ops Q S n f listed a w → wpAny P md ops Q f listed a w
  | 0, _, _, _, h => h
  | f + 1, _, _, _, h => ⟨h.1, fun i hi => wpOp_mono (fun _ _ h' => F_any f _ _ _ h'.2) (h.2 i hi)⟩
theorem F_first {i : Nat} {oi : Oper} {v : Value} (hi : ops[i]? = some oi) (hsel : ∀ (j : Nat) (o : Oper) cs b, ops[j]? = some o → o.op ≠ .select cs b) (hQ : ∀ c a w, Q (.panic c) (a.put oi.dst v) w → Q (.panic c) a w)
    (hs : Region.sinkB md ops n = true) (hc : Region.chainB md ops n = true) (hn : n < ops.size) (hin : i < n) : ∀ (f : Nat) (listed : Array Bool) (a : Act) (w : World), HeadInv md ops n listed →
      (∀ j oj, ops[j]? = some oj → j ≠ i → listed.getD j true = false → (∀ e ∈ oj.after, Region.binds md e = true → e.on ≠ i) → oi.apart ops oj = true) →
      i ∈ Region.ready md ops listed → YieldsIf P ops S oi v a → S w →
      wpAnyF P md ops Q S n f (listed.setIfInBounds i true) (a.put oi.dst v) w → wpAnyF P md ops Q S n (f + 1) listed a w := by
  intro f
  induction f with
  | zero =>
    intro listed a w inv _ hr hy hS H
    have hun := (mem_ready.1 hr).1
    refine ⟨fun h => (by rw [h] at hr; cases hr), fun j hj => ?_⟩
    by_cases hji : j = i
    · subst hji; exact hy.wpOp hi hS ⟨fun _ => hS, H⟩
    · have := ready_mono hj hji
      rw [H.1] at this
      cases this
  | succ f ih =>
    intro listed a w inv hfree hr hy hS H
    have hun := (mem_ready.1 hr).1
    refine ⟨fun h => (by rw [h] at hr; cases hr), fun j hj => ?_⟩
    have hjn : j < n := by
      rcases Nat.lt_or_ge j n with h | h
      · exact h
      · exact absurd hj (tail_waits hs hc hn inv _ i rfl hin hun j h)
    by_cases hji : j = i
    · subst hji; exact hy.wpOp hi hS ⟨fun _ => hS, H⟩
    · have h1 := H.2 j (ready_mono hj hji)
      obtain ⟨hjun, oj, hoj, hall⟩ := mem_ready.1 hj
      have hnot : ∀ e ∈ oj.after, Region.binds md e = true → e.on ≠ i := fun e he hb heq => by
        have h1 := hall e he hb
        rw [heq, getD_both hun] at h1
        cases h1
      have h2 := wpOp_putIf hoj (hfree j oj hoj hji hjun hnot) (fun cs b => hsel i oi cs b hi) (fun cs b => hsel j oj cs b hoj) hQ hy h1
      have hfree' : ∀ k ok, ops[k]? = some ok → k ≠ i → (listed.setIfInBounds j true).getD k true = false → (∀ e ∈ ok.after, Region.binds md e = true → e.on ≠ i) → oi.apart ops ok = true := fun k ok hk hki hun hno => by
        refine hfree k ok hk hki ?_ hno
        by_cases hjk : j = k
        · subst hjk; exact hjun
        · rw [getD_set_ne true hjk] at hun; exact hun
      refine wpOp_mono (fun a' w' h3 => ⟨h3.2.1, ih (listed.setIfInBounds j true) a' w' (inv.set hj hjn) hfree' (ready_mono hr (Ne.symm hji)) h3.1 (h3.2.1 hjn) ?_⟩) h2
      rw [Array.setIfInBounds_comm _ _ hji]
      exact h3.2.2
theorem F_take {i : Nat} {oi : Oper} {v : Value} {f : Nat} {listed : Array Bool} {a : Act} {w : World} (hi : ops[i]? = some oi) (hB : (Region.noSelect ops && Region.sinkB md ops n && Region.chainB md ops n && decide (n < ops.size) && decide (i < n)) = true)
    (hf : Region.free md ops listed i = true) (hr : (Region.ready md ops listed).contains i = true) (hQ : ∀ c a w, Q (.panic c) (a.put oi.dst v) w → Q (.panic c) a w) (inv : HeadInv md ops n listed) (hy : YieldsIf P ops S oi v a) (hS : S w)
    (h : HeadInv md ops n (listed.setIfInBounds i true) → wpAnyF P md ops Q S n f (listed.setIfInBounds i true) (a.put oi.dst v) w) : wpAnyF P md ops Q S n (f + 1) listed a w := by
  simp only [Bool.and_eq_true, decide_eq_true_eq] at hB
  obtain ⟨⟨⟨⟨h1, h2⟩, h3⟩, h4⟩, h5⟩ := hB
  have hr' : i ∈ Region.ready md ops listed := by simpa using hr
  exact F_first hi (Region.noSelect_spec h1) hQ h2 h3 h4 h5 f listed a w inv (Region.free_spec hi hf) hr' hy hS (h (inv.set hr' h5))
/-- the only one that may come up: an operation below n -/
theorem F_one {i : Nat} {oi : Oper} {f : Nat} {listed : Array Bool} {a : Act} {w : World} (hr : Region.ready md ops listed = [i]) (hi : ops[i]? = some oi) (hg : oi.guard = none) (hin : i < n) (inv : HeadInv md ops n listed)
    (h : ∀ K : Act → World → Prop, Shut (∀ a' w', S w' → (S w' → HeadInv md ops n (listed.setIfInBounds i true) → wpAnyF P md ops Q S n f (listed.setIfInBounds i true) a' w') → K a' w') → Oper.wp P oi a w K Q) : wpAnyF P md ops Q S n (f + 1) listed a w := by
  refine ⟨fun h0 => (by rw [hr] at h0; cases h0), fun j hj => ?_⟩
  have hj2 := hj
  rw [hr] at hj2
  obtain rfl : j = i := by simpa using hj2
  have hw : Region.wanted oi (yielded ops a.tmps) = true := by simp [Region.wanted, hg]
  unfold wpOp
  simp only [hi, hw, if_true]
  exact .inl (h _ (fun a' w' hS hF => ⟨fun _ => hS, hF hS (inv.set hj hin)⟩))
/-- the last one -/
theorem F_last {i : Nat} {oi : Oper} {f : Nat} {listed : Array Bool} {a : Act} {w : World} (hr : Region.ready md ops listed = [i]) (hi : ops[i]? = some oi) (hg : oi.guard = none) (hin : n ≤ i) (he : Region.ready md ops (listed.setIfInBounds i true) = [])
    (h : ∀ K : Act → World → Prop, (∀ a' w', Q .normal a' w' → K a' w') → Oper.wp P oi a w K Q) : wpAnyF P md ops Q S n (f + 1) listed a w := by
  refine ⟨fun h0 => (by rw [hr] at h0; cases h0), fun j hj => ?_⟩
  rw [hr] at hj
  obtain rfl : j = i := by simpa using hj
  have hw : Region.wanted oi (yielded ops a.tmps) = true := by simp [Region.wanted, hg]
  unfold wpOp
  simp only [hi, hw, if_true]
  refine .inl (h _ (fun a' w' hq => ⟨fun h => absurd h (by omega), ?_⟩))
  cases f with
  | zero => exact ⟨he, hq⟩
  | succ f => exact ⟨fun _ => hq, by rw [he]; simp⟩
/-- one of the chain at the end, not the last -/
theorem F_tail {i : Nat} {oi : Oper} {f : Nat} {listed : Array Bool} {a : Act} {w : World} (hr : Region.ready md ops listed = [i]) (hi : ops[i]? = some oi) (hg : oi.guard = none) (hin : n ≤ i)
    (h : ∀ K : Act → World → Prop, Shut (∀ a' w', wpAnyF P md ops Q S n f (listed.setIfInBounds i true) a' w' → K a' w') → Oper.wp P oi a w K Q) : wpAnyF P md ops Q S n (f + 1) listed a w := by
  refine ⟨fun h0 => (by rw [hr] at h0; cases h0), fun j hj => ?_⟩
  rw [hr] at hj
  obtain rfl : j = i := by simpa using hj
  have hw : Region.wanted oi (yielded ops a.tmps) = true := by simp [Region.wanted, hg]
  unfold wpOp
  simp only [hi, hw, if_true]
  exact .inl (h _ (fun a' w' hF => ⟨fun hlt => absurd hlt (by omega), hF⟩))
theorem F_start {id : Nat} {a : Act} {w : World} (n : Nat) (S : World → Prop) (hm : P.follows .mixedOrders = true) (hS : S w.drew)
    (h : S w.drew → HeadInv .any ops n (Array.replicate ops.size false) → wpAnyF P .any ops Q S n ops.size (Array.replicate ops.size false) a w.drew) : (Code.region id ops true).wp P Q a w :=
  wp_region_any hm (F_any _ _ _ _ (h hS ⟨by simp, fun j oj _ hl => (by rw [getD_replicate_false] at hl; cases hl), fun t _ ht => getD_in (by simpa using ht) (getD_replicate_false _ _)⟩))

/-- append(s, x): as an operation by itself; the one element lies in block H -/
theorem op_append1 {w : World} {α : Type} (E : α → List Value) {o : Oper} {a : Act} {K : Act → World → Prop} {t e : TypeId} {z : Value} {k bytes : Nat} (el : ElemOk P t e z k bytes) (hgd : o.guard = none) (s y : Operand)
    (ho : o.op = .call { callee := .builtin .append, args := #[s, y], argTypes := #[t, t] })
    (base : Nat) (v : Value) (xs : List α) (x : α) (c H : Nat) (hs : a.eval s = v) (hown : w.ownsRow base e k v xs.length (xs.flatMap E)) (hy : a.eval y = .slice (some ⟨H, 0, none⟩) 1 c)
    (hH : w.heap[H]? = some (.cells (E x).toArray e (0, 0))) (hE : (E x).length = k) (h1 : ∀ u ∈ E x, u.oneCell' = true) (hbytes : (xs.length + 1) * bytes ≤ 140737488355328) (hb0 : 0 < bytes) (hbase : base ≤ w.heap.size)
    (h : ∀ g cap w', w'.ownsRow base e k (.slice (some ⟨g, 0, none⟩) (xs.length + 1) cap) (xs ++ [x]).length ((xs ++ [x]).flatMap E) → w.grownBy w' v.ownBlock → (v.ownBlock = some g ∨ w.heap.size ≤ g) → g < w'.heap.size →
      K (a.put o.dst (.slice (some ⟨g, 0, none⟩) (xs.length + 1) cap)) w') : Oper.wp P o a w K Q := by
  have h2 := step_append1 (ops := #[]) (EE := True) (Q := Q) (K := K) E el hgd s y ho base v xs x c H hs hown hy hH hE h1 hbytes hb0 hbase h
  have hw : Region.wanted o (yielded #[] a.tmps) = true := by simp [Region.wanted, hgd]
  rwa [if_pos hw] at h2
/-- the same at the head of a list of operations -/
theorem wpList_append2 {w : World} {α : Type} (E : α → List Value) {rest : List Oper} {o : Oper} {a : Act} {t e : TypeId} {z : Value} {k bytes : Nat} (el : ElemOk P t e z k bytes) (hgd : o.guard = none) (s y : Operand)
    (ho : o.op = .call { callee := .builtin .append, args := #[s, y], argTypes := #[t, t] })
    (base : Nat) (v : Value) (xs : List α) (x : α) (c H : Nat) (hs : a.eval s = v) (hown : w.ownsRow base e k v xs.length (xs.flatMap E)) (hy : a.eval y = .slice (some ⟨H, 0, none⟩) 1 c)
    (hH : w.heap[H]? = some (.cells (E x).toArray e (0, 0))) (hE : (E x).length = k) (h1 : ∀ u ∈ E x, u.oneCell' = true) (hbytes : (xs.length + 1) * bytes ≤ 140737488355328) (hb0 : 0 < bytes) (hbase : base ≤ w.heap.size)
    (h : ∀ g cap w', w'.ownsRow base e k (.slice (some ⟨g, 0, none⟩) (xs.length + 1) cap) (xs ++ [x]).length ((xs ++ [x]).flatMap E) → w.grownBy w' v.ownBlock → (v.ownBlock = some g ∨ w.heap.size ≤ g) → g < w'.heap.size →
      wpList P ops Q rest (a.put o.dst (.slice (some ⟨g, 0, none⟩) (xs.length + 1) cap)) w') : wpList P ops Q (o :: rest) a w :=
  wpList_plain hgd fun _ hK => op_append1 E el hgd s y ho base v xs x c H hs hown hy hH hE h1 hbytes hb0 hbase fun g cap w' h2 h3 h4 h5 => hK _ _ (h g cap w' h2 h3 h4 h5)
end
end Go.Proofs.Ytmlfkledhnlkeaa

