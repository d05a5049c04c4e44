/- Parts of the proof, joined into one text: Keep, LawKit, Drw, ExpD, SzE. -/
import Derived.Test.YtallglnmeeahiaaPartEHONMLDA
import Derived.Deep.RegionHeld
import Derived.Test.YtallglnmeeahiaaPartGEEOALPK
import Derived.Deep.Cut
import Derived.Test.YtallglnmeeahiaaPartOFPIKNKI
/- What a drawn region reads is kept behind calls, new blocks and appends to rows of other blocks. -/
namespace Go.Proofs.Ytallglnmeeahiaa
set_option linter.unusedVariables false
set_option linter.unusedSimpArgs false
open Go.ChangeShapes Go.WideShapes Go.ChangeAt Go.RowKit
section
variable {w w' : World}
theorem kcell (hb : Below w.heap.size w w') {p : Addr} {v : Value} (h : w.cell? p = some v) : w'.cell? p = some v := (hb.cell (World.block_lt_of_cell? w _ h)).trans h
theorem kfb (hb : Below w.heap.size w w') {p : Addr} {v : Value} (hc : w.cell? p = some v) (hf : w.frozen? p = false) : w'.frozen? p = false := (hb.frozen (World.block_lt_of_cell? w _ hc)).trans hf
theorem kfg {row : Option Nat} (hg : w.grownBy w' row) {p : Addr} {v : Value} (hn : some p.block ≠ row) (hc : w.cell? p = some v) (hf : w.frozen? p = false) : w'.frozen? p = false := (World.frozen?_of_block (hg.block p.block (World.block_lt_of_cell? w _ hc) hn)).trans hf
theorem kB2 {p0 p1 : Addr} {v0 v1 : Value} (hb : Below w.heap.size w w') (h : w.cell? p0 = some v0 ∧ w.cell? p1 = some v1) : w'.cell? p0 = some v0 ∧ w'.cell? p1 = some v1 := by
  obtain ⟨c0, c1⟩ := h
  exact ⟨kcell hb c0, kcell hb c1⟩
theorem kA2 {p0 p1 : Addr} {v0 v1 : Value} (o : Obj) (h : w.cell? p0 = some v0 ∧ w.cell? p1 = some v1) : (w.alloc o).cell? p0 = some v0 ∧ (w.alloc o).cell? p1 = some v1 := kB2 ((Below.refl _ _).alloc (Nat.le_refl _) _) h
theorem kS2 {p0 p1 q : Addr} {v0 v1 x : Value} (n0 : q.block ≠ p0.block) (n1 : q.block ≠ p1.block) (h : w.cell? p0 = some v0 ∧ w.cell? p1 = some v1) : (w.setCell q x).cell? p0 = some v0 ∧ (w.setCell q x).cell? p1 = some v1 := by
  obtain ⟨c0, c1⟩ := h
  exact ⟨(World.cell?_setCell_far _ _ _ _ n0).trans c0, (World.cell?_setCell_far _ _ _ _ n1).trans c1⟩
theorem kG2 {p0 p1 : Addr} {v0 v1 : Value} {row : Option Nat} (hg : w.grownBy w' row) (n0 : some p0.block ≠ row) (n1 : some p1.block ≠ row) (h : w.cell? p0 = some v0 ∧ w.cell? p1 = some v1) : w'.cell? p0 = some v0 ∧ w'.cell? p1 = some v1 := by
  obtain ⟨c0, c1⟩ := h
  exact ⟨hg.cell c0 n0, hg.cell c1 n1⟩
theorem kB3 {p0 p1 p2 : Addr} {v0 v1 v2 : Value} (hb : Below w.heap.size w w') (h : w.cell? p0 = some v0 ∧ w.cell? p1 = some v1 ∧ w.cell? p2 = some v2) : w'.cell? p0 = some v0 ∧ w'.cell? p1 = some v1 ∧ w'.cell? p2 = some v2 := by
  obtain ⟨c0, c1, c2⟩ := h
  exact ⟨kcell hb c0, kcell hb c1, kcell hb c2⟩
theorem kA3 {p0 p1 p2 : Addr} {v0 v1 v2 : Value} (o : Obj) (h : w.cell? p0 = some v0 ∧ w.cell? p1 = some v1 ∧ w.cell? p2 = some v2) : (w.alloc o).cell? p0 = some v0 ∧ (w.alloc o).cell? p1 = some v1 ∧ (w.alloc o).cell? p2 = some v2 := kB3 ((Below.refl _ _).alloc (Nat.le_refl _) _) h
theorem kS3 {p0 p1 p2 q : Addr} {v0 v1 v2 x : Value} (n0 : q.block ≠ p0.block) (n1 : q.block ≠ p1.block) (n2 : q.block ≠ p2.block) (h : w.cell? p0 = some v0 ∧ w.cell? p1 = some v1 ∧ w.cell? p2 = some v2) : (w.setCell q x).cell? p0 = some v0 ∧ (w.setCell q x).cell? p1 = some v1 ∧ (w.setCell q x).cell? p2 = some v2 := by
  obtain ⟨c0, c1, c2⟩ := h
  exact ⟨(World.cell?_setCell_far _ _ _ _ n0).trans c0, (World.cell?_setCell_far _ _ _ _ n1).trans c1, (World.cell?_setCell_far _ _ _ _ n2).trans c2⟩
theorem kG3 {p0 p1 p2 : Addr} {v0 v1 v2 : Value} {row : Option Nat} (hg : w.grownBy w' row) (n0 : some p0.block ≠ row) (n1 : some p1.block ≠ row) (n2 : some p2.block ≠ row) (h : w.cell? p0 = some v0 ∧ w.cell? p1 = some v1 ∧ w.cell? p2 = some v2) : w'.cell? p0 = some v0 ∧ w'.cell? p1 = some v1 ∧ w'.cell? p2 = some v2 := by
  obtain ⟨c0, c1, c2⟩ := h
  exact ⟨hg.cell c0 n0, hg.cell c1 n1, hg.cell c2 n2⟩
theorem kB4 {p0 p1 p2 p3 : Addr} {v0 v1 v2 v3 : Value} (hb : Below w.heap.size w w') (h : w.cell? p0 = some v0 ∧ w.cell? p1 = some v1 ∧ w.cell? p2 = some v2 ∧ w.cell? p3 = some v3) : w'.cell? p0 = some v0 ∧ w'.cell? p1 = some v1 ∧ w'.cell? p2 = some v2 ∧ w'.cell? p3 = some v3 := by
  obtain ⟨c0, c1, c2, c3⟩ := h
  exact ⟨kcell hb c0, kcell hb c1, kcell hb c2, kcell hb c3⟩
theorem kA4 {p0 p1 p2 p3 : Addr} {v0 v1 v2 v3 : Value} (o : Obj) (h : w.cell? p0 = some v0 ∧ w.cell? p1 = some v1 ∧ w.cell? p2 = some v2 ∧ w.cell? p3 = some v3) : (w.alloc o).cell? p0 = some v0 ∧ (w.alloc o).cell? p1 = some v1 ∧ (w.alloc o).cell? p2 = some v2 ∧ (w.alloc o).cell? p3 = some v3 := kB4 ((Below.refl _ _).alloc (Nat.le_refl _) _) h
theorem kS4 {p0 p1 p2 p3 q : Addr} {v0 v1 v2 v3 x : Value} (n0 : q.block ≠ p0.block) (n1 : q.block ≠ p1.block) (n2 : q.block ≠ p2.block) (n3 : q.block ≠ p3.block) (h : w.cell? p0 = some v0 ∧ w.cell? p1 = some v1 ∧ w.cell? p2 = some v2 ∧ w.cell? p3 = some v3) : (w.setCell q x).cell? p0 = some v0 ∧ (w.setCell q x).cell? p1 = some v1 ∧ (w.setCell q x).cell? p2 = some v2 ∧ (w.setCell q x).cell? p3 = some v3 := by
  obtain ⟨c0, c1, c2, c3⟩ := h
  exact ⟨(World.cell?_setCell_far _ _ _ _ n0).trans c0, (World.cell?_setCell_far _ _ _ _ n1).trans c1, (World.cell?_setCell_far _ _ _ _ n2).trans c2, (World.cell?_setCell_far _ _ _ _ n3).trans c3⟩
theorem kG4 {p0 p1 p2 p3 : Addr} {v0 v1 v2 v3 : Value} {row : Option Nat} (hg : w.grownBy w' row) (n0 : some p0.block ≠ row) (n1 : some p1.block ≠ row) (n2 : some p2.block ≠ row) (n3 : some p3.block ≠ row) (h : w.cell? p0 = some v0 ∧ w.cell? p1 = some v1 ∧ w.cell? p2 = some v2 ∧ w.cell? p3 = some v3) : w'.cell? p0 = some v0 ∧ w'.cell? p1 = some v1 ∧ w'.cell? p2 = some v2 ∧ w'.cell? p3 = some v3 := by
  obtain ⟨c0, c1, c2, c3⟩ := h
  exact ⟨hg.cell c0 n0, hg.cell c1 n1, hg.cell c2 n2, hg.cell c3 n3⟩
theorem kB5 {p0 p1 p2 p3 p4 : Addr} {v0 v1 v2 v3 v4 : Value} (hb : Below w.heap.size w w') (h : w.cell? p0 = some v0 ∧ w.cell? p1 = some v1 ∧ w.cell? p2 = some v2 ∧ w.cell? p3 = some v3 ∧ w.cell? p4 = some v4) : w'.cell? p0 = some v0 ∧ w'.cell? p1 = some v1 ∧ w'.cell? p2 = some v2 ∧ w'.cell? p3 = some v3 ∧ w'.cell? p4 = some v4 := by
  obtain ⟨c0, c1, c2, c3, c4⟩ := h
  exact ⟨kcell hb c0, kcell hb c1, kcell hb c2, kcell hb c3, kcell hb c4⟩
theorem kA5 {p0 p1 p2 p3 p4 : Addr} {v0 v1 v2 v3 v4 : Value} (o : Obj) (h : w.cell? p0 = some v0 ∧ w.cell? p1 = some v1 ∧ w.cell? p2 = some v2 ∧ w.cell? p3 = some v3 ∧ w.cell? p4 = some v4) : (w.alloc o).cell? p0 = some v0 ∧ (w.alloc o).cell? p1 = some v1 ∧ (w.alloc o).cell? p2 = some v2 ∧ (w.alloc o).cell? p3 = some v3 ∧ (w.alloc o).cell? p4 = some v4 := kB5 ((Below.refl _ _).alloc (Nat.le_refl _) _) h
theorem kS5 {p0 p1 p2 p3 p4 q : Addr} {v0 v1 v2 v3 v4 x : Value} (n0 : q.block ≠ p0.block) (n1 : q.block ≠ p1.block) (n2 : q.block ≠ p2.block) (n3 : q.block ≠ p3.block) (n4 : q.block ≠ p4.block) (h : w.cell? p0 = some v0 ∧ w.cell? p1 = some v1 ∧ w.cell? p2 = some v2 ∧ w.cell? p3 = some v3 ∧ w.cell? p4 = some v4) : (w.setCell q x).cell? p0 = some v0 ∧ (w.setCell q x).cell? p1 = some v1 ∧ (w.setCell q x).cell? p2 = some v2 ∧ (w.setCell q x).cell? p3 = some v3 ∧ (w.setCell q x).cell? p4 = some v4 := by
  obtain ⟨c0, c1, c2, c3, c4⟩ := h
  exact ⟨(World.cell?_setCell_far _ _ _ _ n0).trans c0, (World.cell?_setCell_far _ _ _ _ n1).trans c1, (World.cell?_setCell_far _ _ _ _ n2).trans c2, (World.cell?_setCell_far _ _ _ _ n3).trans c3, (World.cell?_setCell_far _ _ _ _ n4).trans c4⟩
theorem kG5 {p0 p1 p2 p3 p4 : Addr} {v0 v1 v2 v3 v4 : Value} {row : Option Nat} (hg : w.grownBy w' row) (n0 : some p0.block ≠ row) (n1 : some p1.block ≠ row) (n2 : some p2.block ≠ row) (n3 : some p3.block ≠ row) (n4 : some p4.block ≠ row) (h : w.cell? p0 = some v0 ∧ w.cell? p1 = some v1 ∧ w.cell? p2 = some v2 ∧ w.cell? p3 = some v3 ∧ w.cell? p4 = some v4) : w'.cell? p0 = some v0 ∧ w'.cell? p1 = some v1 ∧ w'.cell? p2 = some v2 ∧ w'.cell? p3 = some v3 ∧ w'.cell? p4 = some v4 := by
  obtain ⟨c0, c1, c2, c3, c4⟩ := h
  exact ⟨hg.cell c0 n0, hg.cell c1 n1, hg.cell c2 n2, hg.cell c3 n3, hg.cell c4 n4⟩
theorem kB6 {p0 p1 p2 p3 p4 p5 : Addr} {v0 v1 v2 v3 v4 v5 : Value} (hb : Below w.heap.size w w') (h : w.cell? p0 = some v0 ∧ w.cell? p1 = some v1 ∧ w.cell? p2 = some v2 ∧ w.cell? p3 = some v3 ∧ w.cell? p4 = some v4 ∧ w.cell? p5 = some v5) : w'.cell? p0 = some v0 ∧ w'.cell? p1 = some v1 ∧ w'.cell? p2 = some v2 ∧ w'.cell? p3 = some v3 ∧ w'.cell? p4 = some v4 ∧ w'.cell? p5 = some v5 := by
  obtain ⟨c0, c1, c2, c3, c4, c5⟩ := h
  exact ⟨kcell hb c0, kcell hb c1, kcell hb c2, kcell hb c3, kcell hb c4, kcell hb c5⟩
theorem kA6 {p0 p1 p2 p3 p4 p5 : Addr} {v0 v1 v2 v3 v4 v5 : Value} (o : Obj) (h : w.cell? p0 = some v0 ∧ w.cell? p1 = some v1 ∧ w.cell? p2 = some v2 ∧ w.cell? p3 = some v3 ∧ w.cell? p4 = some v4 ∧ w.cell? p5 = some v5) : (w.alloc o).cell? p0 = some v0 ∧ (w.alloc o).cell? p1 = some v1 ∧ (w.alloc o).cell? p2 = some v2 ∧ (w.alloc o).cell? p3 = some v3 ∧ (w.alloc o).cell? p4 = some v4 ∧ (w.alloc o).cell? p5 = some v5 := kB6 ((Below.refl _ _).alloc (Nat.le_refl _) _) h
theorem kS6 {p0 p1 p2 p3 p4 p5 q : Addr} {v0 v1 v2 v3 v4 v5 x : Value} (n0 : q.block ≠ p0.block) (n1 : q.block ≠ p1.block) (n2 : q.block ≠ p2.block) (n3 : q.block ≠ p3.block) (n4 : q.block ≠ p4.block) (n5 : q.block ≠ p5.block) (h : w.cell? p0 = some v0 ∧ w.cell? p1 = some v1 ∧ w.cell? p2 = some v2 ∧ w.cell? p3 = some v3 ∧ w.cell? p4 = some v4 ∧ w.cell? p5 = some v5) : (w.setCell q x).cell? p0 = some v0 ∧ (w.setCell q x).cell? p1 = some v1 ∧ (w.setCell q x).cell? p2 = some v2 ∧ (w.setCell q x).cell? p3 = some v3 ∧ (w.setCell q x).cell? p4 = some v4 ∧ (w.setCell q x).cell? p5 = some v5 := by
  obtain ⟨c0, c1, c2, c3, c4, c5⟩ := h
  exact ⟨(World.cell?_setCell_far _ _ _ _ n0).trans c0, (World.cell?_setCell_far _ _ _ _ n1).trans c1, (World.cell?_setCell_far _ _ _ _ n2).trans c2, (World.cell?_setCell_far _ _ _ _ n3).trans c3, (World.cell?_setCell_far _ _ _ _ n4).trans c4, (World.cell?_setCell_far _ _ _ _ n5).trans c5⟩
theorem kG6 {p0 p1 p2 p3 p4 p5 : Addr} {v0 v1 v2 v3 v4 v5 : Value} {row : Option Nat} (hg : w.grownBy w' row) (n0 : some p0.block ≠ row) (n1 : some p1.block ≠ row) (n2 : some p2.block ≠ row) (n3 : some p3.block ≠ row) (n4 : some p4.block ≠ row) (n5 : some p5.block ≠ row) (h : w.cell? p0 = some v0 ∧ w.cell? p1 = some v1 ∧ w.cell? p2 = some v2 ∧ w.cell? p3 = some v3 ∧ w.cell? p4 = some v4 ∧ w.cell? p5 = some v5) : w'.cell? p0 = some v0 ∧ w'.cell? p1 = some v1 ∧ w'.cell? p2 = some v2 ∧ w'.cell? p3 = some v3 ∧ w'.cell? p4 = some v4 ∧ w'.cell? p5 = some v5 := by
  obtain ⟨c0, c1, c2, c3, c4, c5⟩ := h
  exact ⟨hg.cell c0 n0, hg.cell c1 n1, hg.cell c2 n2, hg.cell c3 n3, hg.cell c4 n4, hg.cell c5 n5⟩
theorem kB7 {p0 p1 p2 p3 p4 p5 p6 : Addr} {v0 v1 v2 v3 v4 v5 v6 : Value} (hb : Below w.heap.size w w') (h : w.cell? p0 = some v0 ∧ w.cell? p1 = some v1 ∧ w.cell? p2 = some v2 ∧ w.cell? p3 = some v3 ∧ w.cell? p4 = some v4 ∧ w.cell? p5 = some v5 ∧ w.cell? p6 = some v6) : w'.cell? p0 = some v0 ∧ w'.cell? p1 = some v1 ∧ w'.cell? p2 = some v2 ∧ w'.cell? p3 = some v3 ∧ w'.cell? p4 = some v4 ∧ w'.cell? p5 = some v5 ∧ w'.cell? p6 = some v6 := by
  obtain ⟨c0, c1, c2, c3, c4, c5, c6⟩ := h
  exact ⟨kcell hb c0, kcell hb c1, kcell hb c2, kcell hb c3, kcell hb c4, kcell hb c5, kcell hb c6⟩
theorem kA7 {p0 p1 p2 p3 p4 p5 p6 : Addr} {v0 v1 v2 v3 v4 v5 v6 : Value} (o : Obj) (h : w.cell? p0 = some v0 ∧ w.cell? p1 = some v1 ∧ w.cell? p2 = some v2 ∧ w.cell? p3 = some v3 ∧ w.cell? p4 = some v4 ∧ w.cell? p5 = some v5 ∧ w.cell? p6 = some v6) : (w.alloc o).cell? p0 = some v0 ∧ (w.alloc o).cell? p1 = some v1 ∧ (w.alloc o).cell? p2 = some v2 ∧ (w.alloc o).cell? p3 = some v3 ∧ (w.alloc o).cell? p4 = some v4 ∧ (w.alloc o).cell? p5 = some v5 ∧ (w.alloc o).cell? p6 = some v6 := kB7 ((Below.refl _ _).alloc (Nat.le_refl _) _) h
theorem kS7 {p0 p1 p2 p3 p4 p5 p6 q : Addr} {v0 v1 v2 v3 v4 v5 v6 x : Value} (n0 : q.block ≠ p0.block) (n1 : q.block ≠ p1.block) (n2 : q.block ≠ p2.block) (n3 : q.block ≠ p3.block) (n4 : q.block ≠ p4.block) (n5 : q.block ≠ p5.block) (n6 : q.block ≠ p6.block) (h : w.cell? p0 = some v0 ∧ w.cell? p1 = some v1 ∧ w.cell? p2 = some v2 ∧ w.cell? p3 = some v3 ∧ w.cell? p4 = some v4 ∧ w.cell? p5 = some v5 ∧ w.cell? p6 = some v6) : (w.setCell q x).cell? p0 = some v0 ∧ (w.setCell q x).cell? p1 = some v1 ∧ (w.setCell q x).cell? p2 = some v2 ∧ (w.setCell q x).cell? p3 = some v3 ∧ (w.setCell q x).cell? p4 = some v4 ∧ (w.setCell q x).cell? p5 = some v5 ∧ (w.setCell q x).cell? p6 = some v6 := by
  obtain ⟨c0, c1, c2, c3, c4, c5, c6⟩ := h
  exact ⟨(World.cell?_setCell_far _ _ _ _ n0).trans c0, (World.cell?_setCell_far _ _ _ _ n1).trans c1, (World.cell?_setCell_far _ _ _ _ n2).trans c2, (World.cell?_setCell_far _ _ _ _ n3).trans c3, (World.cell?_setCell_far _ _ _ _ n4).trans c4, (World.cell?_setCell_far _ _ _ _ n5).trans c5, (World.cell?_setCell_far _ _ _ _ n6).trans c6⟩
theorem kG7 {p0 p1 p2 p3 p4 p5 p6 : Addr} {v0 v1 v2 v3 v4 v5 v6 : Value} {row : Option Nat} (hg : w.grownBy w' row) (n0 : some p0.block ≠ row) (n1 : some p1.block ≠ row) (n2 : some p2.block ≠ row) (n3 : some p3.block ≠ row) (n4 : some p4.block ≠ row) (n5 : some p5.block ≠ row) (n6 : some p6.block ≠ row) (h : w.cell? p0 = some v0 ∧ w.cell? p1 = some v1 ∧ w.cell? p2 = some v2 ∧ w.cell? p3 = some v3 ∧ w.cell? p4 = some v4 ∧ w.cell? p5 = some v5 ∧ w.cell? p6 = some v6) : w'.cell? p0 = some v0 ∧ w'.cell? p1 = some v1 ∧ w'.cell? p2 = some v2 ∧ w'.cell? p3 = some v3 ∧ w'.cell? p4 = some v4 ∧ w'.cell? p5 = some v5 ∧ w'.cell? p6 = some v6 := by
  obtain ⟨c0, c1, c2, c3, c4, c5, c6⟩ := h
  exact ⟨hg.cell c0 n0, hg.cell c1 n1, hg.cell c2 n2, hg.cell c3 n3, hg.cell c4 n4, hg.cell c5 n5, hg.cell c6 n6⟩
theorem kB8 {p0 p1 p2 p3 p4 p5 p6 p7 : Addr} {v0 v1 v2 v3 v4 v5 v6 v7 : Value} (hb : Below w.heap.size w w') (h : w.cell? p0 = some v0 ∧ w.cell? p1 = some v1 ∧ w.cell? p2 = some v2 ∧ w.cell? p3 = some v3 ∧ w.cell? p4 = some v4 ∧ w.cell? p5 = some v5 ∧ w.cell? p6 = some v6 ∧ w.cell? p7 = some v7) : w'.cell? p0 = some v0 ∧ w'.cell? p1 = some v1 ∧ w'.cell? p2 = some v2 ∧ w'.cell? p3 = some v3 ∧ w'.cell? p4 = some v4 ∧ w'.cell? p5 = some v5 ∧ w'.cell? p6 = some v6 ∧ w'.cell? p7 = some v7 := by
  obtain ⟨c0, c1, c2, c3, c4, c5, c6, c7⟩ := h
  exact ⟨kcell hb c0, kcell hb c1, kcell hb c2, kcell hb c3, kcell hb c4, kcell hb c5, kcell hb c6, kcell hb c7⟩
theorem kA8 {p0 p1 p2 p3 p4 p5 p6 p7 : Addr} {v0 v1 v2 v3 v4 v5 v6 v7 : Value} (o : Obj) (h : w.cell? p0 = some v0 ∧ w.cell? p1 = some v1 ∧ w.cell? p2 = some v2 ∧ w.cell? p3 = some v3 ∧ w.cell? p4 = some v4 ∧ w.cell? p5 = some v5 ∧ w.cell? p6 = some v6 ∧ w.cell? p7 = some v7) : (w.alloc o).cell? p0 = some v0 ∧ (w.alloc o).cell? p1 = some v1 ∧ (w.alloc o).cell? p2 = some v2 ∧ (w.alloc o).cell? p3 = some v3 ∧ (w.alloc o).cell? p4 = some v4 ∧ (w.alloc o).cell? p5 = some v5 ∧ (w.alloc o).cell? p6 = some v6 ∧ (w.alloc o).cell? p7 = some v7 := kB8 ((Below.refl _ _).alloc (Nat.le_refl _) _) h
theorem kS8 {p0 p1 p2 p3 p4 p5 p6 p7 q : Addr} {v0 v1 v2 v3 v4 v5 v6 v7 x : Value} (n0 : q.block ≠ p0.block) (n1 : q.block ≠ p1.block) (n2 : q.block ≠ p2.block) (n3 : q.block ≠ p3.block) (n4 : q.block ≠ p4.block) (n5 : q.block ≠ p5.block) (n6 : q.block ≠ p6.block) (n7 : q.block ≠ p7.block) (h : w.cell? p0 = some v0 ∧ w.cell? p1 = some v1 ∧ w.cell? p2 = some v2 ∧ w.cell? p3 = some v3 ∧ w.cell? p4 = some v4 ∧ w.cell? p5 = some v5 ∧ w.cell? p6 = some v6 ∧ w.cell? p7 = some v7) : (w.setCell q x).cell? p0 = some v0 ∧ (w.setCell q x).cell? p1 = some v1 ∧ (w.setCell q x).cell? p2 = some v2 ∧ (w.setCell q x).cell? p3 = some v3 ∧ (w.setCell q x).cell? p4 = some v4 ∧ (w.setCell q x).cell? p5 = some v5 ∧ (w.setCell q x).cell? p6 = some v6 ∧ (w.setCell q x).cell? p7 = some v7 := by
  obtain ⟨c0, c1, c2, c3, c4, c5, c6, c7⟩ := h
  exact ⟨(World.cell?_setCell_far _ _ _ _ n0).trans c0, (World.cell?_setCell_far _ _ _ _ n1).trans c1, (World.cell?_setCell_far _ _ _ _ n2).trans c2, (World.cell?_setCell_far _ _ _ _ n3).trans c3, (World.cell?_setCell_far _ _ _ _ n4).trans c4, (World.cell?_setCell_far _ _ _ _ n5).trans c5, (World.cell?_setCell_far _ _ _ _ n6).trans c6, (World.cell?_setCell_far _ _ _ _ n7).trans c7⟩
theorem kG8 {p0 p1 p2 p3 p4 p5 p6 p7 : Addr} {v0 v1 v2 v3 v4 v5 v6 v7 : Value} {row : Option Nat} (hg : w.grownBy w' row) (n0 : some p0.block ≠ row) (n1 : some p1.block ≠ row) (n2 : some p2.block ≠ row) (n3 : some p3.block ≠ row) (n4 : some p4.block ≠ row) (n5 : some p5.block ≠ row) (n6 : some p6.block ≠ row) (n7 : some p7.block ≠ row) (h : w.cell? p0 = some v0 ∧ w.cell? p1 = some v1 ∧ w.cell? p2 = some v2 ∧ w.cell? p3 = some v3 ∧ w.cell? p4 = some v4 ∧ w.cell? p5 = some v5 ∧ w.cell? p6 = some v6 ∧ w.cell? p7 = some v7) : w'.cell? p0 = some v0 ∧ w'.cell? p1 = some v1 ∧ w'.cell? p2 = some v2 ∧ w'.cell? p3 = some v3 ∧ w'.cell? p4 = some v4 ∧ w'.cell? p5 = some v5 ∧ w'.cell? p6 = some v6 ∧ w'.cell? p7 = some v7 := by
  obtain ⟨c0, c1, c2, c3, c4, c5, c6, c7⟩ := h
  exact ⟨hg.cell c0 n0, hg.cell c1 n1, hg.cell c2 n2, hg.cell c3 n3, hg.cell c4 n4, hg.cell c5 n5, hg.cell c6 n6, hg.cell c7 n7⟩
theorem kB9 {p0 p1 p2 p3 p4 p5 p6 p7 p8 : Addr} {v0 v1 v2 v3 v4 v5 v6 v7 v8 : Value} (hb : Below w.heap.size w w') (h : w.cell? p0 = some v0 ∧ w.cell? p1 = some v1 ∧ w.cell? p2 = some v2 ∧ w.cell? p3 = some v3 ∧ w.cell? p4 = some v4 ∧ w.cell? p5 = some v5 ∧ w.cell? p6 = some v6 ∧ w.cell? p7 = some v7 ∧ w.cell? p8 = some v8) : w'.cell? p0 = some v0 ∧ w'.cell? p1 = some v1 ∧ w'.cell? p2 = some v2 ∧ w'.cell? p3 = some v3 ∧ w'.cell? p4 = some v4 ∧ w'.cell? p5 = some v5 ∧ w'.cell? p6 = some v6 ∧ w'.cell? p7 = some v7 ∧ w'.cell? p8 = some v8 := by
  obtain ⟨c0, c1, c2, c3, c4, c5, c6, c7, c8⟩ := h
  exact ⟨kcell hb c0, kcell hb c1, kcell hb c2, kcell hb c3, kcell hb c4, kcell hb c5, kcell hb c6, kcell hb c7, kcell hb c8⟩
theorem kA9 {p0 p1 p2 p3 p4 p5 p6 p7 p8 : Addr} {v0 v1 v2 v3 v4 v5 v6 v7 v8 : Value} (o : Obj) (h : w.cell? p0 = some v0 ∧ w.cell? p1 = some v1 ∧ w.cell? p2 = some v2 ∧ w.cell? p3 = some v3 ∧ w.cell? p4 = some v4 ∧ w.cell? p5 = some v5 ∧ w.cell? p6 = some v6 ∧ w.cell? p7 = some v7 ∧ w.cell? p8 = some v8) : (w.alloc o).cell? p0 = some v0 ∧ (w.alloc o).cell? p1 = some v1 ∧ (w.alloc o).cell? p2 = some v2 ∧ (w.alloc o).cell? p3 = some v3 ∧ (w.alloc o).cell? p4 = some v4 ∧ (w.alloc o).cell? p5 = some v5 ∧ (w.alloc o).cell? p6 = some v6 ∧ (w.alloc o).cell? p7 = some v7 ∧ (w.alloc o).cell? p8 = some v8 := kB9 ((Below.refl _ _).alloc (Nat.le_refl _) _) h
theorem kS9 {p0 p1 p2 p3 p4 p5 p6 p7 p8 q : Addr} {v0 v1 v2 v3 v4 v5 v6 v7 v8 x : Value} (n0 : q.block ≠ p0.block) (n1 : q.block ≠ p1.block) (n2 : q.block ≠ p2.block) (n3 : q.block ≠ p3.block) (n4 : q.block ≠ p4.block) (n5 : q.block ≠ p5.block) (n6 : q.block ≠ p6.block) (n7 : q.block ≠ p7.block) (n8 : q.block ≠ p8.block) (h : w.cell? p0 = some v0 ∧ w.cell? p1 = some v1 ∧ w.cell? p2 = some v2 ∧ w.cell? p3 = some v3 ∧ w.cell? p4 = some v4 ∧ w.cell? p5 = some v5 ∧ w.cell? p6 = some v6 ∧ w.cell? p7 = some v7 ∧ w.cell? p8 = some v8) : (w.setCell q x).cell? p0 = some v0 ∧ (w.setCell q x).cell? p1 = some v1 ∧ (w.setCell q x).cell? p2 = some v2 ∧ (w.setCell q x).cell? p3 = some v3 ∧ (w.setCell q x).cell? p4 = some v4 ∧ (w.setCell q x).cell? p5 = some v5 ∧ (w.setCell q x).cell? p6 = some v6 ∧ (w.setCell q x).cell? p7 = some v7 ∧ (w.setCell q x).cell? p8 = some v8 := by
  obtain ⟨c0, c1, c2, c3, c4, c5, c6, c7, c8⟩ := h
  exact ⟨(World.cell?_setCell_far _ _ _ _ n0).trans c0, (World.cell?_setCell_far _ _ _ _ n1).trans c1, (World.cell?_setCell_far _ _ _ _ n2).trans c2, (World.cell?_setCell_far _ _ _ _ n3).trans c3, (World.cell?_setCell_far _ _ _ _ n4).trans c4, (World.cell?_setCell_far _ _ _ _ n5).trans c5, (World.cell?_setCell_far _ _ _ _ n6).trans c6, (World.cell?_setCell_far _ _ _ _ n7).trans c7, (World.cell?_setCell_far _ _ _ _ n8).trans c8⟩
theorem kG9 {p0 p1 p2 p3 p4 p5 p6 p7 p8 : Addr} {v0 v1 v2 v3 v4 v5 v6 v7 v8 : Value} {row : Option Nat} (hg : w.grownBy w' row) (n0 : some p0.block ≠ row) (n1 : some p1.block ≠ row) (n2 : some p2.block ≠ row) (n3 : some p3.block ≠ row) (n4 : some p4.block ≠ row) (n5 : some p5.block ≠ row) (n6 : some p6.block ≠ row) (n7 : some p7.block ≠ row) (n8 : some p8.block ≠ row) (h : w.cell? p0 = some v0 ∧ w.cell? p1 = some v1 ∧ w.cell? p2 = some v2 ∧ w.cell? p3 = some v3 ∧ w.cell? p4 = some v4 ∧ w.cell? p5 = some v5 ∧ w.cell? p6 = some v6 ∧ w.cell? p7 = some v7 ∧ w.cell? p8 = some v8) : w'.cell? p0 = some v0 ∧ w'.cell? p1 = some v1 ∧ w'.cell? p2 = some v2 ∧ w'.cell? p3 = some v3 ∧ w'.cell? p4 = some v4 ∧ w'.cell? p5 = some v5 ∧ w'.cell? p6 = some v6 ∧ w'.cell? p7 = some v7 ∧ w'.cell? p8 = some v8 := by
  obtain ⟨c0, c1, c2, c3, c4, c5, c6, c7, c8⟩ := h
  exact ⟨hg.cell c0 n0, hg.cell c1 n1, hg.cell c2 n2, hg.cell c3 n3, hg.cell c4 n4, hg.cell c5 n5, hg.cell c6 n6, hg.cell c7 n7, hg.cell c8 n8⟩
theorem kB10 {p0 p1 p2 p3 p4 p5 p6 p7 p8 p9 : Addr} {v0 v1 v2 v3 v4 v5 v6 v7 v8 v9 : Value} (hb : Below w.heap.size w w') (h : w.cell? p0 = some v0 ∧ w.cell? p1 = some v1 ∧ w.cell? p2 = some v2 ∧ w.cell? p3 = some v3 ∧ w.cell? p4 = some v4 ∧ w.cell? p5 = some v5 ∧ w.cell? p6 = some v6 ∧ w.cell? p7 = some v7 ∧ w.cell? p8 = some v8 ∧ w.cell? p9 = some v9) : w'.cell? p0 = some v0 ∧ w'.cell? p1 = some v1 ∧ w'.cell? p2 = some v2 ∧ w'.cell? p3 = some v3 ∧ w'.cell? p4 = some v4 ∧ w'.cell? p5 = some v5 ∧ w'.cell? p6 = some v6 ∧ w'.cell? p7 = some v7 ∧ w'.cell? p8 = some v8 ∧ w'.cell? p9 = some v9 := by
  obtain ⟨c0, c1, c2, c3, c4, c5, c6, c7, c8, c9⟩ := h
  exact ⟨kcell hb c0, kcell hb c1, kcell hb c2, kcell hb c3, kcell hb c4, kcell hb c5, kcell hb c6, kcell hb c7, kcell hb c8, kcell hb c9⟩
theorem kA10 {p0 p1 p2 p3 p4 p5 p6 p7 p8 p9 : Addr} {v0 v1 v2 v3 v4 v5 v6 v7 v8 v9 : Value} (o : Obj) (h : w.cell? p0 = some v0 ∧ w.cell? p1 = some v1 ∧ w.cell? p2 = some v2 ∧ w.cell? p3 = some v3 ∧ w.cell? p4 = some v4 ∧ w.cell? p5 = some v5 ∧ w.cell? p6 = some v6 ∧ w.cell? p7 = some v7 ∧ w.cell? p8 = some v8 ∧ w.cell? p9 = some v9) : (w.alloc o).cell? p0 = some v0 ∧ (w.alloc o).cell? p1 = some v1 ∧ (w.alloc o).cell? p2 = some v2 ∧ (w.alloc o).cell? p3 = some v3 ∧ (w.alloc o).cell? p4 = some v4 ∧ (w.alloc o).cell? p5 = some v5 ∧ (w.alloc o).cell? p6 = some v6 ∧ (w.alloc o).cell? p7 = some v7 ∧ (w.alloc o).cell? p8 = some v8 ∧ (w.alloc o).cell? p9 = some v9 := kB10 ((Below.refl _ _).alloc (Nat.le_refl _) _) h
theorem kS10 {p0 p1 p2 p3 p4 p5 p6 p7 p8 p9 q : Addr} {v0 v1 v2 v3 v4 v5 v6 v7 v8 v9 x : Value} (n0 : q.block ≠ p0.block) (n1 : q.block ≠ p1.block) (n2 : q.block ≠ p2.block) (n3 : q.block ≠ p3.block) (n4 : q.block ≠ p4.block) (n5 : q.block ≠ p5.block) (n6 : q.block ≠ p6.block) (n7 : q.block ≠ p7.block) (n8 : q.block ≠ p8.block) (n9 : q.block ≠ p9.block) (h : w.cell? p0 = some v0 ∧ w.cell? p1 = some v1 ∧ w.cell? p2 = some v2 ∧ w.cell? p3 = some v3 ∧ w.cell? p4 = some v4 ∧ w.cell? p5 = some v5 ∧ w.cell? p6 = some v6 ∧ w.cell? p7 = some v7 ∧ w.cell? p8 = some v8 ∧ w.cell? p9 = some v9) : (w.setCell q x).cell? p0 = some v0 ∧ (w.setCell q x).cell? p1 = some v1 ∧ (w.setCell q x).cell? p2 = some v2 ∧ (w.setCell q x).cell? p3 = some v3 ∧ (w.setCell q x).cell? p4 = some v4 ∧ (w.setCell q x).cell? p5 = some v5 ∧ (w.setCell q x).cell? p6 = some v6 ∧ (w.setCell q x).cell? p7 = some v7 ∧ (w.setCell q x).cell? p8 = some v8 ∧ (w.setCell q x).cell? p9 = some v9 := by
  obtain ⟨c0, c1, c2, c3, c4, c5, c6, c7, c8, c9⟩ := h
  exact ⟨(World.cell?_setCell_far _ _ _ _ n0).trans c0, (World.cell?_setCell_far _ _ _ _ n1).trans c1, (World.cell?_setCell_far _ _ _ _ n2).trans c2, (World.cell?_setCell_far _ _ _ _ n3).trans c3, (World.cell?_setCell_far _ _ _ _ n4).trans c4, (World.cell?_setCell_far _ _ _ _ n5).trans c5, (World.cell?_setCell_far _ _ _ _ n6).trans c6, (World.cell?_setCell_far _ _ _ _ n7).trans c7, (World.cell?_setCell_far _ _ _ _ n8).trans c8, (World.cell?_setCell_far _ _ _ _ n9).trans c9⟩
theorem kG10 {p0 p1 p2 p3 p4 p5 p6 p7 p8 p9 : Addr} {v0 v1 v2 v3 v4 v5 v6 v7 v8 v9 : Value} {row : Option Nat} (hg : w.grownBy w' row) (n0 : some p0.block ≠ row) (n1 : some p1.block ≠ row) (n2 : some p2.block ≠ row) (n3 : some p3.block ≠ row) (n4 : some p4.block ≠ row) (n5 : some p5.block ≠ row) (n6 : some p6.block ≠ row) (n7 : some p7.block ≠ row) (n8 : some p8.block ≠ row) (n9 : some p9.block ≠ row) (h : w.cell? p0 = some v0 ∧ w.cell? p1 = some v1 ∧ w.cell? p2 = some v2 ∧ w.cell? p3 = some v3 ∧ w.cell? p4 = some v4 ∧ w.cell? p5 = some v5 ∧ w.cell? p6 = some v6 ∧ w.cell? p7 = some v7 ∧ w.cell? p8 = some v8 ∧ w.cell? p9 = some v9) : w'.cell? p0 = some v0 ∧ w'.cell? p1 = some v1 ∧ w'.cell? p2 = some v2 ∧ w'.cell? p3 = some v3 ∧ w'.cell? p4 = some v4 ∧ w'.cell? p5 = some v5 ∧ w'.cell? p6 = some v6 ∧ w'.cell? p7 = some v7 ∧ w'.cell? p8 = some v8 ∧ w'.cell? p9 = some v9 := by
  obtain ⟨c0, c1, c2, c3, c4, c5, c6, c7, c8, c9⟩ := h
  exact ⟨hg.cell c0 n0, hg.cell c1 n1, hg.cell c2 n2, hg.cell c3 n3, hg.cell c4 n4, hg.cell c5 n5, hg.cell c6 n6, hg.cell c7 n7, hg.cell c8 n8, hg.cell c9 n9⟩
theorem kB11 {p0 p1 p2 p3 p4 p5 p6 p7 p8 p9 p10 : Addr} {v0 v1 v2 v3 v4 v5 v6 v7 v8 v9 v10 : Value} (hb : Below w.heap.size w w') (h : w.cell? p0 = some v0 ∧ w.cell? p1 = some v1 ∧ w.cell? p2 = some v2 ∧ w.cell? p3 = some v3 ∧ w.cell? p4 = some v4 ∧ w.cell? p5 = some v5 ∧ w.cell? p6 = some v6 ∧ w.cell? p7 = some v7 ∧ w.cell? p8 = some v8 ∧ w.cell? p9 = some v9 ∧ w.cell? p10 = some v10) : w'.cell? p0 = some v0 ∧ w'.cell? p1 = some v1 ∧ w'.cell? p2 = some v2 ∧ w'.cell? p3 = some v3 ∧ w'.cell? p4 = some v4 ∧ w'.cell? p5 = some v5 ∧ w'.cell? p6 = some v6 ∧ w'.cell? p7 = some v7 ∧ w'.cell? p8 = some v8 ∧ w'.cell? p9 = some v9 ∧ w'.cell? p10 = some v10 := by
  obtain ⟨c0, c1, c2, c3, c4, c5, c6, c7, c8, c9, c10⟩ := h
  exact ⟨kcell hb c0, kcell hb c1, kcell hb c2, kcell hb c3, kcell hb c4, kcell hb c5, kcell hb c6, kcell hb c7, kcell hb c8, kcell hb c9, kcell hb c10⟩
theorem kA11 {p0 p1 p2 p3 p4 p5 p6 p7 p8 p9 p10 : Addr} {v0 v1 v2 v3 v4 v5 v6 v7 v8 v9 v10 : Value} (o : Obj) (h : w.cell? p0 = some v0 ∧ w.cell? p1 = some v1 ∧ w.cell? p2 = some v2 ∧ w.cell? p3 = some v3 ∧ w.cell? p4 = some v4 ∧ w.cell? p5 = some v5 ∧ w.cell? p6 = some v6 ∧ w.cell? p7 = some v7 ∧ w.cell? p8 = some v8 ∧ w.cell? p9 = some v9 ∧ w.cell? p10 = some v10) : (w.alloc o).cell? p0 = some v0 ∧ (w.alloc o).cell? p1 = some v1 ∧ (w.alloc o).cell? p2 = some v2 ∧ (w.alloc o).cell? p3 = some v3 ∧ (w.alloc o).cell? p4 = some v4 ∧ (w.alloc o).cell? p5 = some v5 ∧ (w.alloc o).cell? p6 = some v6 ∧ (w.alloc o).cell? p7 = some v7 ∧ (w.alloc o).cell? p8 = some v8 ∧ (w.alloc o).cell? p9 = some v9 ∧ (w.alloc o).cell? p10 = some v10 := kB11 ((Below.refl _ _).alloc (Nat.le_refl _) _) h
theorem kS11 {p0 p1 p2 p3 p4 p5 p6 p7 p8 p9 p10 q : Addr} {v0 v1 v2 v3 v4 v5 v6 v7 v8 v9 v10 x : Value} (n0 : q.block ≠ p0.block) (n1 : q.block ≠ p1.block) (n2 : q.block ≠ p2.block) (n3 : q.block ≠ p3.block) (n4 : q.block ≠ p4.block) (n5 : q.block ≠ p5.block) (n6 : q.block ≠ p6.block) (n7 : q.block ≠ p7.block) (n8 : q.block ≠ p8.block) (n9 : q.block ≠ p9.block) (n10 : q.block ≠ p10.block) (h : w.cell? p0 = some v0 ∧ w.cell? p1 = some v1 ∧ w.cell? p2 = some v2 ∧ w.cell? p3 = some v3 ∧ w.cell? p4 = some v4 ∧ w.cell? p5 = some v5 ∧ w.cell? p6 = some v6 ∧ w.cell? p7 = some v7 ∧ w.cell? p8 = some v8 ∧ w.cell? p9 = some v9 ∧ w.cell? p10 = some v10) : (w.setCell q x).cell? p0 = some v0 ∧ (w.setCell q x).cell? p1 = some v1 ∧ (w.setCell q x).cell? p2 = some v2 ∧ (w.setCell q x).cell? p3 = some v3 ∧ (w.setCell q x).cell? p4 = some v4 ∧ (w.setCell q x).cell? p5 = some v5 ∧ (w.setCell q x).cell? p6 = some v6 ∧ (w.setCell q x).cell? p7 = some v7 ∧ (w.setCell q x).cell? p8 = some v8 ∧ (w.setCell q x).cell? p9 = some v9 ∧ (w.setCell q x).cell? p10 = some v10 := by
  obtain ⟨c0, c1, c2, c3, c4, c5, c6, c7, c8, c9, c10⟩ := h
  exact ⟨(World.cell?_setCell_far _ _ _ _ n0).trans c0, (World.cell?_setCell_far _ _ _ _ n1).trans c1, (World.cell?_setCell_far _ _ _ _ n2).trans c2, (World.cell?_setCell_far _ _ _ _ n3).trans c3, (World.cell?_setCell_far _ _ _ _ n4).trans c4, (World.cell?_setCell_far _ _ _ _ n5).trans c5, (World.cell?_setCell_far _ _ _ _ n6).trans c6, (World.cell?_setCell_far _ _ _ _ n7).trans c7, (World.cell?_setCell_far _ _ _ _ n8).trans c8, (World.cell?_setCell_far _ _ _ _ n9).trans c9, (World.cell?_setCell_far _ _ _ _ n10).trans c10⟩
theorem kG11 {p0 p1 p2 p3 p4 p5 p6 p7 p8 p9 p10 : Addr} {v0 v1 v2 v3 v4 v5 v6 v7 v8 v9 v10 : Value} {row : Option Nat} (hg : w.grownBy w' row) (n0 : some p0.block ≠ row) (n1 : some p1.block ≠ row) (n2 : some p2.block ≠ row) (n3 : some p3.block ≠ row) (n4 : some p4.block ≠ row) (n5 : some p5.block ≠ row) (n6 : some p6.block ≠ row) (n7 : some p7.block ≠ row) (n8 : some p8.block ≠ row) (n9 : some p9.block ≠ row) (n10 : some p10.block ≠ row) (h : w.cell? p0 = some v0 ∧ w.cell? p1 = some v1 ∧ w.cell? p2 = some v2 ∧ w.cell? p3 = some v3 ∧ w.cell? p4 = some v4 ∧ w.cell? p5 = some v5 ∧ w.cell? p6 = some v6 ∧ w.cell? p7 = some v7 ∧ w.cell? p8 = some v8 ∧ w.cell? p9 = some v9 ∧ w.cell? p10 = some v10) : w'.cell? p0 = some v0 ∧ w'.cell? p1 = some v1 ∧ w'.cell? p2 = some v2 ∧ w'.cell? p3 = some v3 ∧ w'.cell? p4 = some v4 ∧ w'.cell? p5 = some v5 ∧ w'.cell? p6 = some v6 ∧ w'.cell? p7 = some v7 ∧ w'.cell? p8 = some v8 ∧ w'.cell? p9 = some v9 ∧ w'.cell? p10 = some v10 := by
  obtain ⟨c0, c1, c2, c3, c4, c5, c6, c7, c8, c9, c10⟩ := h
  exact ⟨hg.cell c0 n0, hg.cell c1 n1, hg.cell c2 n2, hg.cell c3 n3, hg.cell c4 n4, hg.cell c5 n5, hg.cell c6 n6, hg.cell c7 n7, hg.cell c8 n8, hg.cell c9 n9, hg.cell c10 n10⟩
theorem kB12 {p0 p1 p2 p3 p4 p5 p6 p7 p8 p9 p10 p11 : Addr} {v0 v1 v2 v3 v4 v5 v6 v7 v8 v9 v10 v11 : Value} (hb : Below w.heap.size w w') (h : w.cell? p0 = some v0 ∧ w.cell? p1 = some v1 ∧ w.cell? p2 = some v2 ∧ w.cell? p3 = some v3 ∧ w.cell? p4 = some v4 ∧ w.cell? p5 = some v5 ∧ w.cell? p6 = some v6 ∧ w.cell? p7 = some v7 ∧ w.cell? p8 = some v8 ∧ w.cell? p9 = some v9 ∧ w.cell? p10 = some v10 ∧ w.cell? p11 = some v11) : w'.cell? p0 = some v0 ∧ w'.cell? p1 = some v1 ∧ w'.cell? p2 = some v2 ∧ w'.cell? p3 = some v3 ∧ w'.cell? p4 = some v4 ∧ w'.cell? p5 = some v5 ∧ w'.cell? p6 = some v6 ∧ w'.cell? p7 = some v7 ∧ w'.cell? p8 = some v8 ∧ w'.cell? p9 = some v9 ∧ w'.cell? p10 = some v10 ∧ w'.cell? p11 = some v11 := by
  obtain ⟨c0, c1, c2, c3, c4, c5, c6, c7, c8, c9, c10, c11⟩ := h
  exact ⟨kcell hb c0, kcell hb c1, kcell hb c2, kcell hb c3, kcell hb c4, kcell hb c5, kcell hb c6, kcell hb c7, kcell hb c8, kcell hb c9, kcell hb c10, kcell hb c11⟩
theorem kA12 {p0 p1 p2 p3 p4 p5 p6 p7 p8 p9 p10 p11 : Addr} {v0 v1 v2 v3 v4 v5 v6 v7 v8 v9 v10 v11 : Value} (o : Obj) (h : w.cell? p0 = some v0 ∧ w.cell? p1 = some v1 ∧ w.cell? p2 = some v2 ∧ w.cell? p3 = some v3 ∧ w.cell? p4 = some v4 ∧ w.cell? p5 = some v5 ∧ w.cell? p6 = some v6 ∧ w.cell? p7 = some v7 ∧ w.cell? p8 = some v8 ∧ w.cell? p9 = some v9 ∧ w.cell? p10 = some v10 ∧ w.cell? p11 = some v11) : (w.alloc o).cell? p0 = some v0 ∧ (w.alloc o).cell? p1 = some v1 ∧ (w.alloc o).cell? p2 = some v2 ∧ (w.alloc o).cell? p3 = some v3 ∧ (w.alloc o).cell? p4 = some v4 ∧ (w.alloc o).cell? p5 = some v5 ∧ (w.alloc o).cell? p6 = some v6 ∧ (w.alloc o).cell? p7 = some v7 ∧ (w.alloc o).cell? p8 = some v8 ∧ (w.alloc o).cell? p9 = some v9 ∧ (w.alloc o).cell? p10 = some v10 ∧ (w.alloc o).cell? p11 = some v11 := kB12 ((Below.refl _ _).alloc (Nat.le_refl _) _) h
theorem kS12 {p0 p1 p2 p3 p4 p5 p6 p7 p8 p9 p10 p11 q : Addr} {v0 v1 v2 v3 v4 v5 v6 v7 v8 v9 v10 v11 x : Value} (n0 : q.block ≠ p0.block) (n1 : q.block ≠ p1.block) (n2 : q.block ≠ p2.block) (n3 : q.block ≠ p3.block) (n4 : q.block ≠ p4.block) (n5 : q.block ≠ p5.block) (n6 : q.block ≠ p6.block) (n7 : q.block ≠ p7.block) (n8 : q.block ≠ p8.block) (n9 : q.block ≠ p9.block) (n10 : q.block ≠ p10.block) (n11 : q.block ≠ p11.block) (h : w.cell? p0 = some v0 ∧ w.cell? p1 = some v1 ∧ w.cell? p2 = some v2 ∧ w.cell? p3 = some v3 ∧ w.cell? p4 = some v4 ∧ w.cell? p5 = some v5 ∧ w.cell? p6 = some v6 ∧ w.cell? p7 = some v7 ∧ w.cell? p8 = some v8 ∧ w.cell? p9 = some v9 ∧ w.cell? p10 = some v10 ∧ w.cell? p11 = some v11) : (w.setCell q x).cell? p0 = some v0 ∧ (w.setCell q x).cell? p1 = some v1 ∧ (w.setCell q x).cell? p2 = some v2 ∧ (w.setCell q x).cell? p3 = some v3 ∧ (w.setCell q x).cell? p4 = some v4 ∧ (w.setCell q x).cell? p5 = some v5 ∧ (w.setCell q x).cell? p6 = some v6 ∧ (w.setCell q x).cell? p7 = some v7 ∧ (w.setCell q x).cell? p8 = some v8 ∧ (w.setCell q x).cell? p9 = some v9 ∧ (w.setCell q x).cell? p10 = some v10 ∧ (w.setCell q x).cell? p11 = some v11 := by
  obtain ⟨c0, c1, c2, c3, c4, c5, c6, c7, c8, c9, c10, c11⟩ := h
  exact ⟨(World.cell?_setCell_far _ _ _ _ n0).trans c0, (World.cell?_setCell_far _ _ _ _ n1).trans c1, (World.cell?_setCell_far _ _ _ _ n2).trans c2, (World.cell?_setCell_far _ _ _ _ n3).trans c3, (World.cell?_setCell_far _ _ _ _ n4).trans c4, (World.cell?_setCell_far _ _ _ _ n5).trans c5, (World.cell?_setCell_far _ _ _ _ n6).trans c6, (World.cell?_setCell_far _ _ _ _ n7).trans c7, (World.cell?_setCell_far _ _ _ _ n8).trans c8, (World.cell?_setCell_far _ _ _ _ n9).trans c9, (World.cell?_setCell_far _ _ _ _ n10).trans c10, (World.cell?_setCell_far _ _ _ _ n11).trans c11⟩
theorem kG12 {p0 p1 p2 p3 p4 p5 p6 p7 p8 p9 p10 p11 : Addr} {v0 v1 v2 v3 v4 v5 v6 v7 v8 v9 v10 v11 : Value} {row : Option Nat} (hg : w.grownBy w' row) (n0 : some p0.block ≠ row) (n1 : some p1.block ≠ row) (n2 : some p2.block ≠ row) (n3 : some p3.block ≠ row) (n4 : some p4.block ≠ row) (n5 : some p5.block ≠ row) (n6 : some p6.block ≠ row) (n7 : some p7.block ≠ row) (n8 : some p8.block ≠ row) (n9 : some p9.block ≠ row) (n10 : some p10.block ≠ row) (n11 : some p11.block ≠ row) (h : w.cell? p0 = some v0 ∧ w.cell? p1 = some v1 ∧ w.cell? p2 = some v2 ∧ w.cell? p3 = some v3 ∧ w.cell? p4 = some v4 ∧ w.cell? p5 = some v5 ∧ w.cell? p6 = some v6 ∧ w.cell? p7 = some v7 ∧ w.cell? p8 = some v8 ∧ w.cell? p9 = some v9 ∧ w.cell? p10 = some v10 ∧ w.cell? p11 = some v11) : w'.cell? p0 = some v0 ∧ w'.cell? p1 = some v1 ∧ w'.cell? p2 = some v2 ∧ w'.cell? p3 = some v3 ∧ w'.cell? p4 = some v4 ∧ w'.cell? p5 = some v5 ∧ w'.cell? p6 = some v6 ∧ w'.cell? p7 = some v7 ∧ w'.cell? p8 = some v8 ∧ w'.cell? p9 = some v9 ∧ w'.cell? p10 = some v10 ∧ w'.cell? p11 = some v11 := by
  obtain ⟨c0, c1, c2, c3, c4, c5, c6, c7, c8, c9, c10, c11⟩ := h
  exact ⟨hg.cell c0 n0, hg.cell c1 n1, hg.cell c2 n2, hg.cell c3 n3, hg.cell c4 n4, hg.cell c5 n5, hg.cell c6 n6, hg.cell c7 n7, hg.cell c8 n8, hg.cell c9 n9, hg.cell c10 n10, hg.cell c11 n11⟩
end
end Go.Proofs.Ytallglnmeeahiaa

/- Words for laws whose results lie in memory: what is owned outlives marks elsewhere; rows of rows are marked whatever the order of their blocks. -/
namespace Go.Proofs.Ytallglnmeeahiaa
set_option linter.unusedVariables false
set_option linter.unusedSimpArgs false
open Go.ChangeShapes Go.WideShapes Go.ChangeAt Go.RowKit
attribute [local go_sem] ext_cell ext_frozen ext_lt ext_lt1 ext_lt2 ext_lt3 ltn2 ltn3 ltn13 lts1 lts2 lts3

theorem GrO.only {lo hi : Nat} {w w' : World} {v : Value} {g : Gr} (h : GrO lo hi w v g) {l r : Nat} (hb : Only l r w w') (ho : hi ≤ l ∨ r ≤ lo) : GrO lo hi w' v g := by
  obtain ⟨vs, es, mid, rfl, h1, h2, h3, h4⟩ := h
  exact ⟨vs, es, mid, rfl, h1.only hb (by omega), h2.only hb (by omega), h3, h4⟩
theorem AuO.only {lo hi : Nat} {w w' : World} {v : Value} {a : Au} (h : AuO lo hi w v a) {l r : Nat} (hb : Only l r w w') (ho : hi ≤ l ∨ r ≤ lo) : AuO lo hi w' v a := by
  obtain ⟨ac, nx, mid, rfl, h1, h2, h3, h4⟩ := h
  exact ⟨ac, nx, mid, rfl, h1.only hb (by omega), h2.only hb (by omega), h3, h4⟩

theorem ownsRow_base {w : World} {base b k n : Nat} {e : TypeId} {v : Value} {cs : List Value} (hb : ∀ g, v.ownBlock = some g → b ≤ g) (h : w.ownsRow base e k v n cs) : w.ownsRow b e k v n cs := by
  obtain ⟨hl, hs⟩ := h
  rcases hs with ⟨rfl, hn⟩ | ⟨g, cap, cur, rfl, hg, r⟩
  · exact ⟨hl, .inl ⟨rfl, hn⟩⟩
  · exact ⟨hl, .inr ⟨g, cap, cur, rfl, hb g rfl, r⟩⟩
theorem filterMap_inj {α β : Type} {f : α → Option β} {L : List α} (h : (L.filterMap f).Nodup) {i j : Nat} {x y : α} (hi : L[i]? = some x) (hj : L[j]? = some y) {b : β} (hx : f x = some b) (hy : f y = some b) : i = j := by
  have hp := List.pairwise_filterMap.1 h
  rw [List.pairwise_iff_getElem] at hp
  obtain ⟨hi1, hi2⟩ := List.getElem?_eq_some_iff.1 hi
  obtain ⟨hj1, hj2⟩ := List.getElem?_eq_some_iff.1 hj
  rcases Nat.lt_trichotomy i j with hl | he | hg
  · exact absurd rfl (hp i j hi1 hj1 hl b (by rw [hi2]; exact hx) b (by rw [hj2]; exact hy))
  · exact he
  · exact absurd rfl (hp j i hj1 hi1 hg b (by rw [hj2]; exact hy) b (by rw [hi2]; exact hx))
theorem NS.turn {α : Type} {lo : Nat} {w w' : World} {oT eT : TypeId} {E : α → List Value} {k : Nat} {v : Value} {us : List Value} {xss : List (List α)} (h : NS lo w oT eT E k v us xss) {i : Nat} {u : Value} {xs' : List α} (hu : us[i]? = some u)
    (hr : w'.ownsRow lo eT k u xs'.length (xs'.flatMap E)) (hb : ∀ b ∈ blks (v :: us), u.ownBlock ≠ some b → w'.heap[b]? = w.heap[b]?) : NS lo w' oT eT E k v us (xss.set i xs') := by
  have hdis := h.dis
  refine ⟨ownsRow_block h.own fun g hg => hb g (mem_blks.2 ⟨0, v, rfl, hg⟩) fun e => ?_, by simp [h.len], fun j u2 xs2 hj hx => ?_, hdis⟩
  · have := filterMap_inj (i := 0) (j := i + 1) hdis rfl (by simpa using hu) hg e
    omega
  · by_cases hij : i = j
    · subst hij
      rw [hu] at hj
      injection hj with hj
      subst hj
      have hl := (List.getElem?_eq_some_iff.1 hx).1
      rw [List.length_set] at hl
      rw [List.getElem?_set_self hl] at hx
      injection hx with hx
      subst hx
      exact hr
    · rw [List.getElem?_set_ne hij] at hx
      refine ownsRow_block (h.rows j u2 xs2 hj hx) fun g hg => hb g (mem_blks.2 ⟨j + 1, u2, by simpa using hj, hg⟩) fun e => ?_
      have := filterMap_inj (i := i + 1) (j := j + 1) hdis (by simpa using hu) (by simpa using hj) e hg
      omega
/-- an owned row lies in its own block alone -/
theorem own_tight {α : Type} {E : α → List Value} {w : World} {base k : Nat} {e : TypeId} {v : Value} {xs : List α} (h : w.ownsRow base e k v xs.length (xs.flatMap E)) :
    ∃ l r, Own l r w e E k v xs ∧ (∀ b, l ≤ b → b < r → v.ownBlock = some b) ∧ (l < r → base ≤ l ∧ r ≤ w.heap.size) := by
  have hlt := h.lt
  obtain ⟨hl, hs⟩ := h
  rcases hs with ⟨rfl, hn⟩ | ⟨g, cap, cur, rfl, hg, hh, rr⟩
  · exact ⟨0, 0, ⟨⟨hl, .inl ⟨rfl, hn⟩⟩, by intro g hg; cases hg⟩, by intro b _ hb; omega, by omega⟩
  · have h2 := hlt g rfl
    refine ⟨g, g + 1, ⟨⟨hl, .inr ⟨g, cap, cur, rfl, Nat.le_refl _, hh, rr⟩⟩, by intro b hb; injection hb with hb; subst hb; exact Nat.lt_succ_self _⟩, fun b h1 h2 => ?_, fun _ => by omega⟩
    obtain rfl : b = g := by omega
    rfl

/-- rows of rows whose blocks all lie from lo to hi -/
def NSO (lo hi : Nat) (w : World) (v : Value) (xss : List (List Int)) : Prop :=
  ∃ us, NS lo w 30 3 cI 1 v us xss ∧ ∀ b ∈ blks (v :: us), b < hi
section
variable {lo hi : Nat} {w w' : World} {v : Value} {xss : List (List Int)}
theorem NSO.of {us : List Value} (h : NS lo w 30 3 cI 1 v us xss) : NSO lo w.heap.size w v xss := ⟨us, h, fun b hb => (h.lt b hb).2⟩
theorem NSO.view (h : NSO lo hi w v xss) : SSV lo hi w v xss := by
  obtain ⟨us, h, hl⟩ := h
  refine ⟨us, Own.sl ⟨h.own, fun g hg => hl g (mem_blks.2 ⟨0, v, rfl, hg⟩)⟩ cV_len, h.len, fun i u xs hu hx => ?_⟩
  exact Own.sl ⟨h.rows i u xs hu hx, fun g hg => hl g (mem_blks.2 ⟨i + 1, u, by simpa using hu, hg⟩)⟩ cI_len
theorem NSO.below (h : NSO lo hi w v xss) {B : Nat} (hb : Below B w w') (hB : hi ≤ B) : NSO lo hi w' v xss := by
  obtain ⟨us, h, hl⟩ := h
  exact ⟨us, h.blocks fun b hm => hb.block b (by have := hl b hm; omega), hl⟩
theorem NSO.only (h : NSO lo hi w v xss) {l r : Nat} (hb : Only l r w w') (ho : hi ≤ l ∨ r ≤ lo) : NSO lo hi w' v xss := by
  obtain ⟨us, h, hl⟩ := h
  exact ⟨us, h.blocks fun b hm => hb.block b (h.lt b hm).2 (by have := hl b hm; have := (h.lt b hm).1; omega), hl⟩
theorem NSO.mono (h : NSO lo hi w v xss) {lo' hi' : Nat} (h1 : lo' ≤ lo) (h2 : hi ≤ hi') : NSO lo' hi' w v xss := by
  obtain ⟨us, h, hl⟩ := h
  exact ⟨us, h.mono h1, fun b hb => by have := hl b hb; omega⟩
end

end Go.Proofs.Ytallglnmeeahiaa

/- The cursor made, and graphs drawn from it: only that the draw ends, and how its result lies. -/
namespace Go.Proofs.Ytallglnmeeahiaa
set_option linter.unusedVariables false
set_option linter.unusedSimpArgs false
open Go.ChangeShapes Go.WideShapes Go.ChangeAt Go.RowKit
attribute [local go_sem] ext_cell ext_frozen ext_lt ext_lt1 ext_lt2 ext_lt3 ltn2 ltn3 ltn13 lts1 lts2 lts3

theorem Only.kc {b : Nat} {w w' : World} {p : Addr} {v : Value} (ho : Only b (b + 1) w w') (hb : b < p.block) (x : w.cell? p = some v) : w'.cell? p = some v :=
  (ho.cell (World.block_lt_of_cell? _ _ x) (.inr hb)).trans x

theorem own_only {lo k n l r : Nat} {e : TypeId} {v : Value} {cs : List Value} {w w' : World} (h : w.ownsRow lo e k v n cs) (ho : Only l r w w') (hr : r ≤ lo) : w'.ownsRow lo e k v n cs :=
  ownsRow_block h fun g hg => ho.block g (h.lt g hg).2 (.inr (Nat.le_trans hr (h.lt g hg).1))

theorem Cur.below {w w' : World} {b B : Nat} (h : Cur w b) (hb : Below B w w') (hB : b < B) : Cur w' b := by
  obtain ⟨A, bs, c, i, g, h1, h2, h3⟩ := h
  exact ⟨A, bs, c, i, g, h1.below hb hB, h2.below hb (Nat.le_of_lt hB), h3⟩
theorem Cur.set {w : World} {b : Nat} {p : Addr} (h : Cur w b) (hp : b < p.block) (u : Value) : Cur (w.setCell p u) b :=
  h.only ((Only.refl p.block (p.block + 1) w).setCell (.inl ⟨Nat.le_refl _, Nat.lt_succ_self _⟩) u) hp
theorem Only.andBelow {l r B : Nat} {w a c : World} (h : Only l r w a) (hb : Below B a c) (hB : w.heap.size ≤ B) : Only l r w c :=
  ⟨hb.os.trans h.os, hb.tape.trans h.tape, hb.output.trans h.output, Nat.le_trans h.size hb.size, fun n h1 h2 => (hb.block n (Nat.lt_of_lt_of_le h1 hB)).trans (h.block n h1 h2)⟩

theorem Blk.put2 {w : World} {g : Nat} {t : TypeId} {c0 c1 : Value} (h : Blk w g t #[c0, c1]) (d0 d1 : Value) : Blk ((w.setCell ⟨g, 0, none⟩ d0).setCell ⟨g, 1, none⟩ d1) g t #[d0, d1] := by
  have := (h.set_ 0 d0).set_ 1 d1
  simpa using this
theorem Only.put2 (w : World) (g : Nat) (d0 d1 : Value) : Only g (g + 1) w ((w.setCell ⟨g, 0, none⟩ d0).setCell ⟨g, 1, none⟩ d1) := ((Only.refl _ _ _).setCell (p := ⟨g, 0, none⟩) (.inl ⟨Nat.le_refl _, Nat.lt_succ_self _⟩) d0).setCell (p := ⟨g, 1, none⟩) (.inl ⟨Nat.le_refl _, Nat.lt_succ_self _⟩) d1
theorem rowShape {lo k n : Nat} {e : TypeId} {v : Value} {cs : List Value} {w : World} (h : w.ownsRow lo e k v n cs) : ∃ A n c, v = .slice A n c := by
  obtain ⟨_, hs⟩ := h
  rcases hs with ⟨rfl, _⟩ | ⟨g, cap, cur, rfl, _⟩
  · exact ⟨_, _, _, rfl⟩
  · exact ⟨_, _, _, rfl⟩

set_option maxHeartbeats 1000000 in
theorem l1New_any (v : Value) (bs : List Int) (w : World) (hv : SlI 0 w.heap.size w cU 1 v bs) :
    Calls Try.prog 48 #[v] w fun e w' => ∃ b, e = .returned (.pointer (some ⟨b, 0, none⟩)) ∧ w.heap.size ≤ b ∧ Cur w' b ∧ Below w.heap.size w w' := by
  have HV := Lib.hid hv
  obtain ⟨A, c, rfl, hl, hm, hx⟩ := hv
  unfold maxLen at hm
  have HX := Lib.hid hx
  clear hx
  go_enter Try.func48, Try.ntmps48
  go_wp2
  go_loop [3, 4] (fun hh ii => ∃ (i : Nat) (h : Int), i ≤ bs.length ∧ hh = .int .i64 h ∧ ii = .int .i64 i) (fun _ ii => bs.length - (intOf ii).toNat)
  case atStart => exact ⟨0, _, Nat.zero_le _, rfl, rfl⟩
  case round =>
    obtain ⟨i, h, hi, rfl, rfl⟩ := hrel
    by_cases hlt : i < bs.length
    · have hxi : bs[i]? = some bs[i] := List.getElem?_eq_getElem hlt
      obtain ⟨q, o, rfl, -, hq, hcc⟩ := HX.out i _ hxi
      generalize bs[i] = y at hcc
      have c0 := hcc 0 _ rfl
      simp only [Nat.add_zero, Nat.mul_one] at c0
      clear hcc hxi
      by_cases h4 : (i : Int) < 4000
      · go_wp2
        go_round
        case rel => exact ⟨i + 1, _, by omega, rfl, by go_num⟩
        case measure => simp [intOf]; omega
      · go_wp2
        go_ret
        refine ⟨_, rfl, Nat.le_refl _, ⟨_, bs, c, 0, h, Blk.new w _ _ _ rfl, ?_, by omega, by omega⟩, (Below.refl _ _).alloc (Nat.le_refl _) _⟩
        exact HV.out.below ((Below.refl _ _).alloc (Nat.le_refl _) _) (Nat.le_refl _)
    · go_wp2
      go_ret
      refine ⟨_, rfl, Nat.le_refl _, ⟨_, bs, c, 0, h, Blk.new w _ _ _ rfl, ?_, by omega, by omega⟩, (Below.refl _ _).alloc (Nat.le_refl _) _⟩
      exact HV.out.below ((Below.refl _ _).alloc (Nat.le_refl _) _) (Nat.le_refl _)
end Go.Proofs.Ytallglnmeeahiaa

/- Expressions made: copied, a leaf, a letter, two joined (the reference's side). -/
namespace Go.Proofs.Ytallglnmeeahiaa
set_option linter.unusedVariables false
set_option linter.unusedSimpArgs false
open Go.ChangeShapes Go.WideShapes Go.ChangeAt Go.RowKit
attribute [local go_sem] ext_cell ext_frozen ext_lt ext_lt1 ext_lt2 ext_lt3 ltn2 ltn3 ltn13 lts1 lts2 lts3

theorem elTok : ElemOk Try.prog 130 157 (.agg #[.int .i64 0, .int .i64 0, .int .i64 0, .int .i64 0]) 4 32 := ⟨Try.underlying130, by kernel_rfl, rfl, by omega⟩
/-- an expression in memory of the call's own -/
def TkO (lo hi : Nat) (w : World) (v : Value) (l : List Tok) : Prop := ∃ ss, v = .agg #[ss] ∧ Own lo hi w 157 cEd 4 ss l
theorem TkO.below {lo hi : Nat} {w w' : World} {v : Value} {l : List Tok} (h : TkO lo hi w v l) {B : Nat} (hb : Below B w w') (hB : hi ≤ B) : TkO lo hi w' v l := by
  obtain ⟨ss, rfl, h⟩ := h
  exact ⟨ss, rfl, h.below hb hB⟩
theorem TkO.only {lo hi : Nat} {w w' : World} {v : Value} {l : List Tok} (h : TkO lo hi w v l) {a b : Nat} (hb : Only a b w w') (ho : hi ≤ a ∨ b ≤ lo) : TkO lo hi w' v l := by
  obtain ⟨ss, rfl, h⟩ := h
  exact ⟨ss, rfl, h.only hb ho⟩
theorem TkO.mono {lo hi lo' hi' : Nat} {w : World} {v : Value} {l : List Tok} (h : TkO lo hi w v l) (h1 : lo' ≤ lo) (h2 : hi ≤ hi') : TkO lo' hi' w v l := by
  obtain ⟨ss, rfl, h⟩ := h
  exact ⟨ss, rfl, h.mono h1 h2⟩
/-- an expression that reads as a list of tokens -/
def TkV (lo hi : Nat) (w : World) (v : Value) (l : List Tok) : Prop := ∃ ss, v = .agg #[ss] ∧ SlI lo hi w cEd 4 ss l
theorem TkO.view {lo hi : Nat} {w : World} {v : Value} {l : List Tok} (h : TkO lo hi w v l) : TkV lo hi w v l := by
  obtain ⟨ss, rfl, h⟩ := h
  exact ⟨ss, rfl, h.sl cEd_len⟩
theorem TkV.below {lo hi : Nat} {w w' : World} {v : Value} {l : List Tok} (h : TkV lo hi w v l) {B : Nat} (hb : Below B w w') (hB : hi ≤ B) : TkV lo hi w' v l := by
  obtain ⟨ss, rfl, h⟩ := h
  exact ⟨ss, rfl, h.below hb hB⟩
theorem TkV.only {lo hi : Nat} {w w' : World} {v : Value} {l : List Tok} (h : TkV lo hi w v l) {a b : Nat} (hb : Only a b w w') (hh : hi ≤ w.heap.size) (ho : hi ≤ a ∨ b ≤ lo) : TkV lo hi w' v l := by
  obtain ⟨ss, rfl, h⟩ := h
  exact ⟨ss, rfl, h.only hb hh ho⟩
theorem TkV.mono {lo hi lo' hi' : Nat} {w : World} {v : Value} {l : List Tok} (h : TkV lo hi w v l) (h1 : lo' ≤ lo) (h2 : hi ≤ hi') : TkV lo' hi' w v l := by
  obtain ⟨ss, rfl, h⟩ := h
  exact ⟨ss, rfl, h.mono h1 h2⟩
theorem TkV.keep {w w' : World} {v : Value} {l : List Tok} (h : TkV 0 w.heap.size w v l) (hb : Below w.heap.size w w') : TkV 0 w'.heap.size w' v l := (h.below hb (Nat.le_refl _)).mono (Nat.le_refl _) hb.size
theorem TkV.nil (lo hi : Nat) (w : World) : TkV lo hi w (.agg #[.slice none 0 0]) [] := ⟨_, rfl, SlI.nil _ _ _ _ _⟩
/-- what lies in blocks from B + 1 on, behind a store to block B -/
theorem TkO.done {w : World} {B : Nat} {v : Value} {l : List Tok} (h : TkO (B + 1) w.heap.size w v l) {w0 : World} (hb : Below w0.heap.size w0 w) (hB : w0.heap.size = B) (u : Value) :
    TkO w0.heap.size (w.setCell ⟨B, 0, none⟩ u).heap.size (w.setCell ⟨B, 0, none⟩ u) v l ∧ Below w0.heap.size w0 (w.setCell ⟨B, 0, none⟩ u) := by
  have ho := (Only.refl B (B + 1) w).setCell (p := ⟨B, 0, none⟩) (.inl ⟨Nat.le_refl _, Nat.lt_succ_self _⟩) u
  exact ⟨(h.only ho (.inr (Nat.le_refl _))).mono (by omega) ho.size, hb.setCell (p := ⟨B, 0, none⟩) (by simp only; omega) u⟩

set_option maxHeartbeats 1000000 in
theorem l8Copy_any (ss : Value) (l : List Tok) (w : World) (hv : SlE w cEd 4 ss l) (hn : l.length ≤ 1048576) :
    Calls Try.prog 156 #[ss] w fun e w' => ∃ v', e = .returned v' ∧ TkO w.heap.size w'.heap.size w' v' l ∧ Below w.heap.size w w' := by
  have HV := Lib.hid hv
  obtain ⟨A, n, c, rfl⟩ := hv.shape
  clear hv
  have hb0 := (Below.refl w.heap.size w).alloc (Nat.le_refl _) (.cells #[.slice none 0 0] 132)
  have hbr := Blk.new w 132 #[.slice none 0 0] _ rfl
  obtain ⟨W0, hW0⟩ : ∃ W0, W0 = w.alloc (.cells #[.slice none 0 0] 132) := ⟨_, rfl⟩
  have hs0 : W0.heap.size = w.heap.size + 1 := by rw [hW0]; simp
  rw [← hW0] at hb0 hbr
  have hal := (Below.refl W0.heap.size W0).alloc (Nat.le_refl _) (.cells #[] 157)
  have hrl := World.ownsRow_lit (base := w.heap.size + 1) (e := 157) (size := 4) W0 #[] 0 (by omega) (by decide) rfl
  have HV1 := Lib.hid (HV.out.keep (below_trans hb0 hal))
  have HB1 := Lib.hid (below_trans hb0 hal)
  have HR1 := Lib.hid (hbr.keep hal)
  rw [hs0] at hrl
  have HL := Lib.hid hrl
  have HS0 := Lib.hid hs0
  have HW0 := Lib.hid hW0
  clear hb0 hbr hal hrl hs0 hW0
  go_enter Try.func156, Try.ntmps156
  go_wp2_with (at_builtin; (refine wpList_appendL cEd elTok cEd_len cEd_one rfl _ _ rfl (w.heap.size + 1) _ [] l (by rfl) (by rw [← HW0.out]; exact HL.out) 0 _ _ (by rfl) (by rw [← HW0.out]; exact HV1.out) (by simp; omega) (by omega) (by simp) ?_); intro v5 w5 hrow5 hgr5 hat5
               rw [← HW0.out] at hgr5
               have hob := own_below HL.out (by have := HS0.out; simp; omega) hgr5
               have HR5 := Lib.hid (HR1.out.below hob (by omega))
               have HB5 := Lib.hid (HB1.out.trans (hob.mono (by omega)))
               have HO5 := Lib.hid (Own.of_row (xs := l) hrow5 rfl rfl)
               obtain ⟨A5, n5, c5, rfl⟩ := HO5.out.shape
               have z0 : w5.cell? ⟨w.heap.size, 0, none⟩ = some (.slice none 0 0) := HR5.out.cell 0
               have v0 := HR5.out.frozen 0
               have hlr := HR5.out.lt
               clear hrow5 hgr5 hat5 hob)
  have HD := TkO.done (B := w.heap.size) (v := .agg #[.slice A5 n5 c5]) ⟨_, rfl, HO5.out⟩ HB5.out rfl (.slice A5 n5 c5)
  refine bodyPost_ret (v := .agg #[.slice A5 n5 c5]) (by simp [results, Try.results156, go_sem, z0, v0]) rfl ⟨_, rfl, HD.1, HD.2⟩
set_option maxHeartbeats 1000000 in
theorem l8Leaf_any (k : Int) (w : World) :
    Calls Try.prog 147 #[.int .i64 k] w fun e w' => ∃ v', e = .returned v' ∧ TkO w.heap.size w'.heap.size w' v' [(k, 0, 0, 0)] ∧ Below w.heap.size w w' := by
  have hbr := Blk.new w 132 #[.slice none 0 0] _ rfl
  have hb0 := (Below.refl w.heap.size w).alloc (Nat.le_refl _) (.cells #[.slice none 0 0] 132)
  have hs0 : (w.alloc (.cells #[.slice none 0 0] 132)).heap.size = w.heap.size + 1 := by simp
  go_enter Try.func147, Try.ntmps147
  go_upto_region 1 with fail
  generalize w.alloc (.cells #[.slice none 0 0] 132) = W0 at *
  have hal := (Below.refl W0.heap.size W0).alloc (Nat.le_refl _) (.cells #[.int .i64 k, .int .i64 0, .int .i64 0, .int .i64 0] 157)
  have hrl := World.ownsRow_lit (base := w.heap.size + 1) (e := 157) (size := 4) W0 #[.int .i64 k, .int .i64 0, .int .i64 0, .int .i64 0] 1 (by omega) (by decide) rfl
  have HB5 := Lib.hid (below_trans hb0 hal)
  have HR5 := Lib.hid (hbr.keep hal)
  have HO5 := Lib.hid (Own.of_row (xs := [((k, 0, 0, 0) : Tok)]) (E := cEd) hrl rfl rfl)
  have z0 : W0.cell? ⟨w.heap.size, 0, none⟩ = some (.slice none 0 0) := hbr.cell 0
  have v0 := hbr.frozen 0
  have hlr := hbr.lt
  clear hal hrl hb0 hbr hs0
  go_wp2_with fail
  have HD := TkO.done (B := w.heap.size) (v := .agg #[.slice (some ⟨W0.heap.size, 0, none⟩) 1 1]) ⟨_, rfl, HO5.out⟩ HB5.out rfl (.slice (some ⟨W0.heap.size, 0, none⟩) 1 1)
  rw [World.setCell_alloc_past _ _ _ _ hlr] at HD
  refine bodyPost_ret (v := .agg #[.slice (some ⟨W0.heap.size, 0, none⟩) 1 1]) (by simp [results, Try.results147, go_sem, z0, v0, hlr]) rfl ⟨_, rfl, HD.1, HD.2⟩
set_option maxHeartbeats 1000000 in
theorem letterExpr_any (k : Int) (w : World) :
    Calls Try.prog 148 #[.int .i64 k] w fun e w' => ∃ v', e = .returned v' ∧ TkO w.heap.size w'.heap.size w' v' [(3, k, 0, 0)] ∧ Below w.heap.size w w' := by
  have hbr := Blk.new w 132 #[.slice none 0 0] _ rfl
  have hb0 := (Below.refl w.heap.size w).alloc (Nat.le_refl _) (.cells #[.slice none 0 0] 132)
  have hs0 : (w.alloc (.cells #[.slice none 0 0] 132)).heap.size = w.heap.size + 1 := by simp
  go_enter Try.func148, Try.ntmps148
  go_upto_region 1 with fail
  generalize w.alloc (.cells #[.slice none 0 0] 132) = W0 at *
  have hal := (Below.refl W0.heap.size W0).alloc (Nat.le_refl _) (.cells #[.int .i64 3, .int .i64 k, .int .i64 0, .int .i64 0] 157)
  have hrl := World.ownsRow_lit (base := w.heap.size + 1) (e := 157) (size := 4) W0 #[.int .i64 3, .int .i64 k, .int .i64 0, .int .i64 0] 1 (by omega) (by decide) rfl
  have HB5 := Lib.hid (below_trans hb0 hal)
  have HR5 := Lib.hid (hbr.keep hal)
  have HO5 := Lib.hid (Own.of_row (xs := [((3, k, 0, 0) : Tok)]) (E := cEd) hrl rfl rfl)
  have z0 : W0.cell? ⟨w.heap.size, 0, none⟩ = some (.slice none 0 0) := hbr.cell 0
  have v0 := hbr.frozen 0
  have hlr := hbr.lt
  clear hal hrl hb0 hbr hs0
  go_wp2_with fail
  have HD := TkO.done (B := w.heap.size) (v := .agg #[.slice (some ⟨W0.heap.size, 0, none⟩) 1 1]) ⟨_, rfl, HO5.out⟩ HB5.out rfl (.slice (some ⟨W0.heap.size, 0, none⟩) 1 1)
  rw [World.setCell_alloc_past _ _ _ _ hlr] at HD
  refine bodyPost_ret (v := .agg #[.slice (some ⟨W0.heap.size, 0, none⟩) 1 1]) (by simp [results, Try.results148, go_sem, z0, v0, hlr]) rfl ⟨_, rfl, HD.1, HD.2⟩
/-- a joined expression under way -/
structure JR (w0 w : World) (q : Nat) (ss : Value) (L : List Tok) (tk : Array Value) : Prop where
  row : w.ownsRow (w0.heap.size + 4) 157 4 ss L.length (L.flatMap cEd)
  far : ss.ownBlock ≠ some q
  blk : Blk w q 132 #[ss]
  tok : Blk w (w0.heap.size + 1 + 1) 157 tk
  res : Blk w (w0.heap.size + 1 + 1 + 1) 132 #[.slice none 0 0]
  below : Below w0.heap.size w0 w
  le : w0.heap.size + 4 ≤ q
theorem JR.push {w0 w w' : World} {q : Nat} {ss ss' : Value} {L L' : List Tok} {tk : Array Value} (h : JR w0 w q ss L tk) (hr : w'.ownsRow (w0.heap.size + 4) 157 4 ss' L'.length (L'.flatMap cEd)) (hg : w.grownBy w' ss.ownBlock)
    (hat : ss'.ownBlock = ss.ownBlock ∨ ∀ k, ss'.ownBlock = some k → w.heap.size ≤ k) : Blk w' q 132 #[ss] ∧ JR w0 (w'.setCell ⟨q, 0, none⟩ ss') q ss' L' tk := by
  have hd := h.le
  have hq := h.blk.lt
  have hb := own_below h.row (by omega) hg
  have hfar : ss'.ownBlock ≠ some q := by
    rcases hat with h1 | h1
    · rw [h1]; exact h.far
    · intro e; have := h1 q e; omega
  have hbq : Blk w' q 132 #[ss] := (hg.block q hq (fun e => h.far e.symm)).trans h.blk
  refine ⟨hbq, ownsRow_block hr (fun g hg' => Below.heap_setCell w' ⟨q, 0, none⟩ _ g (fun e => hfar (by rw [hg', e]))), hfar, hbq.set_ 0 _, (h.tok.below hb (by omega)).far (by simp only; omega) _, (h.res.below hb (by omega)).far (by simp only; omega) _, (h.below.trans (hb.mono (by omega))).setCell (p := ⟨q, 0, none⟩) (by simp only; omega) _, hd⟩
theorem JR.below_ {w0 w w' : World} {q : Nat} {ss : Value} {L : List Tok} {tk : Array Value} (h : JR w0 w q ss L tk) (hb : Below w.heap.size w w') : JR w0 w' q ss L tk :=
  ⟨ownsRow_below h.row hb (Nat.le_refl _), h.far, h.blk.keep hb, h.tok.keep hb, h.res.keep hb, h.below.trans (hb.mono h.below.size), h.le⟩
theorem JR.done {w0 w : World} {q : Nat} {ss : Value} {L : List Tok} {tk : Array Value} (h : JR w0 w q ss L tk) :
    TkO w0.heap.size (w.setCell ⟨w0.heap.size + 1 + 1 + 1, 0, none⟩ ss).heap.size (w.setCell ⟨w0.heap.size + 1 + 1 + 1, 0, none⟩ ss) (.agg #[ss]) L ∧ Below w0.heap.size w0 (w.setCell ⟨w0.heap.size + 1 + 1 + 1, 0, none⟩ ss) := by
  have ho := (Only.refl (w0.heap.size + 1 + 1 + 1) (w0.heap.size + 4) w).setCell (p := ⟨w0.heap.size + 1 + 1 + 1, 0, none⟩) (.inl ⟨Nat.le_refl _, Nat.lt_succ_self _⟩) ss
  exact ⟨⟨ss, rfl, ((Own.of_row (xs := L) h.row rfl rfl).only ho (.inr (Nat.le_refl _))).mono (by omega) ho.size⟩, h.below.setCell (p := ⟨w0.heap.size + 1 + 1 + 1, 0, none⟩) (by simp only; omega) _⟩
set_option maxHeartbeats 4000000 in
theorem l8Join_any (va vb : Value) (a b : List Tok) (t : Tok) (w : World) (ha : TkV 0 w.heap.size w va a) (hb : TkV 0 w.heap.size w vb b) (hna : a.length ≤ 100000) (hnb : b.length ≤ 100000) :
    Calls Try.prog 149 #[va, vb, .agg #[.int .i64 t.1, .int .i64 t.2.1, .int .i64 t.2.2.1, .int .i64 t.2.2.2]] w fun e w' => ∃ v', e = .returned v' ∧ TkO w.heap.size w'.heap.size w' v' (a ++ b ++ [t]) ∧ Below w.heap.size w w' := by
  obtain ⟨t0, t1, t2, t3⟩ := t
  obtain ⟨sa, rfl, hsa⟩ := ha
  obtain ⟨sb, rfl, hsb⟩ := hb
  obtain ⟨A1, n1, c1, rfl⟩ := hsa.shape
  obtain ⟨A2, n2, c2, rfl⟩ := hsb.shape
  have HSA := Lib.hid (show SlE w cEd 4 _ a from hsa)
  have HSB := Lib.hid (show SlE w cEd 4 _ b from hsb)
  simp only
  obtain ⟨L, hL⟩ : ∃ L, L = a ++ b := ⟨_, rfl⟩
  rw [← hL]
  have HL := Lib.hid hL
  clear hL
  have hbl : Below w.heap.size w ((((w.alloc (.cells #[.slice A1 n1 c1] 132)).alloc (.cells #[.slice A2 n2 c2] 132)).alloc (.cells #[.int .i64 t0, .int .i64 t1, .int .i64 t2, .int .i64 t3] 157)).alloc (.cells #[.slice none 0 0] 132)) := ((((Below.refl _ _).alloc (Nat.le_refl _) _).alloc (by simp) _).alloc (by simp; omega) _).alloc (by simp; omega) _
  have b2 := ((Blk.new (w.alloc (.cells #[.slice A1 n1 c1] 132)) 132 #[.slice A2 n2 c2] (w.heap.size + 1) (by simp)).alloc (.cells #[.int .i64 t0, .int .i64 t1, .int .i64 t2, .int .i64 t3] 157)).alloc (.cells #[.slice none 0 0] 132)
  have b3 := (Blk.new ((w.alloc (.cells #[.slice A1 n1 c1] 132)).alloc (.cells #[.slice A2 n2 c2] 132)) 157 #[.int .i64 t0, .int .i64 t1, .int .i64 t2, .int .i64 t3] (w.heap.size + 1 + 1) (by simp)).alloc (.cells #[.slice none 0 0] 132)
  have b4 := Blk.new (((w.alloc (.cells #[.slice A1 n1 c1] 132)).alloc (.cells #[.slice A2 n2 c2] 132)).alloc (.cells #[.int .i64 t0, .int .i64 t1, .int .i64 t2, .int .i64 t3] 157)) 132 #[.slice none 0 0] (w.heap.size + 1 + 1 + 1) (by simp)
  have hs0 : ((((w.alloc (.cells #[.slice A1 n1 c1] 132)).alloc (.cells #[.slice A2 n2 c2] 132)).alloc (.cells #[.int .i64 t0, .int .i64 t1, .int .i64 t2, .int .i64 t3] 157)).alloc (.cells #[.slice none 0 0] 132)).heap.size = w.heap.size + 4 := by simp
  clear hsa hsb
  go_enter Try.func149, Try.ntmps149
  go_wp2_with fail
  generalize ((((w.alloc (.cells #[.slice A1 n1 c1] 132)).alloc (.cells #[.slice A2 n2 c2] 132)).alloc (.cells #[.int .i64 t0, .int .i64 t1, .int .i64 t2, .int .i64 t3] 157)).alloc (.cells #[.slice none 0 0] 132)) = W0 at *
  refine (l8Copy_any _ a _ (HSA.out.keep hbl) (by omega)).mono ?_
  rintro e w1 ⟨v1, rfl, ⟨s1, rfl, ho1⟩, hb1⟩
  obtain ⟨A3, n3, c3, rfl⟩ := ho1.shape
  rw [hs0] at ho1
  obtain ⟨q, hq⟩ : ∃ q, q = w1.heap.size := ⟨_, rfl⟩
  have hsz := hb1.size
  rw [hs0] at hsz
  have hal := (Below.refl w1.heap.size w1).alloc (Nat.le_refl _) (.cells #[.slice A3 n3 c3] 132)
  have hbA := below_trans hb1 hal
  have b2' := b2.keep hbA
  have HSB1 := Lib.hid (HSB.out.keep (below_trans hbl hbA))
  have HJ := Lib.hid (show JR w (w1.alloc (.cells #[.slice A3 n3 c3] 132)) q (.slice A3 n3 c3) a _ from
    ⟨ownsRow_below ho1.1 hal (Nat.le_refl _), (fun e => by have := ho1.2 _ e; omega), Blk.new w1 132 #[.slice A3 n3 c3] q hq, b3.keep hbA, b4.keep hbA, below_trans hbl hbA, by omega⟩)
  clear b2 b3 b4 hal hb1 hbA hbl hs0 ho1
  go_upto_region 2 with fail
  rw [← hq]
  generalize w1.alloc (.cells #[.slice A3 n3 c3] 132) = W1 at *
  clear hq
  have y0 : W1.cell? ⟨q, 0, none⟩ = some (.slice A3 n3 c3) := HJ.out.blk.cell 0
  have x0 : W1.cell? ⟨w.heap.size + 1, 0, none⟩ = some (.slice A2 n2 c2) := b2'.cell 0
  clear b2'
  go_upto_region 3 with (at_builtin; (refine wpList_appendL cEd elTok cEd_len cEd_one rfl _ _ rfl (w.heap.size + 4) _ a b (by rfl) HJ.out.row 0 _ _ (by rfl) HSB1.out (by omega) (by omega) (by have h1 := HJ.out.le; have h2 := HJ.out.blk.lt; omega) ?_); intro v5 w5 hrow5 hgr5 hat5; obtain ⟨A5, n5, c5, rfl⟩ := rowShape hrow5; have HP := Lib.hid (HJ.out.push hrow5 hgr5 (hat5.imp_right (fun e k hk => by rw [e] at hk; injection hk with hk; omega))); have z0 : w5.cell? ⟨q, 0, none⟩ = some (.slice A3 n3 c3) := HP.out.1.cell 0; have f0 := HP.out.1.frozen 0; have lq := HP.out.1.lt; clear hrow5 hgr5 hat5)
  have HJ2 := Lib.hid HP.out.2
  rw [← HL.out] at HJ2
  generalize w5.setCell ⟨q, 0, none⟩ (.slice A5 n5 c5) = W2 at *
  clear HP z0 f0 lq y0 x0 HJ HSB1 HSB HSA
  have y0 : W2.cell? ⟨q, 0, none⟩ = some (.slice A5 n5 c5) := HJ2.out.blk.cell 0
  have x0 : W2.cell? ⟨w.heap.size + 1 + 1, 0, none⟩ = some (.int .i64 t0) := HJ2.out.tok.cell 0
  have x1 : W2.cell? ⟨w.heap.size + 1 + 1, 1, none⟩ = some (.int .i64 t1) := HJ2.out.tok.cell 1
  have x2 : W2.cell? ⟨w.heap.size + 1 + 1, 2, none⟩ = some (.int .i64 t2) := HJ2.out.tok.cell 2
  have x3 : W2.cell? ⟨w.heap.size + 1 + 1, 3, none⟩ = some (.int .i64 t3) := HJ2.out.tok.cell 3
  have hll := HJ2.out.le
  have hlq := HJ2.out.blk.lt
  have hab : L.length ≤ 200000 := by rw [HL.out, List.length_append]; omega
  go_upto_region 4 with (at_builtin; (refine wpList_append2 cEd elTok rfl _ _ (by rfl) (w.heap.size + 4) _ L (t0, t1, t2, t3) 1 _ (by rfl) (HJ2.out.row.alloc _) (by rfl) (heap_alloc_new _ _) rfl (cEd_one _) (by omega) (by omega) (by simp; omega) ?_); intro g2 cp2 w9 hown3 hgr3 hat3 hlt3; have HP := Lib.hid ((HJ2.out.below_ ((Below.refl _ _).alloc (Nat.le_refl _) (.cells #[.int .i64 t0, .int .i64 t1, .int .i64 t2, .int .i64 t3] 157))).push hown3 hgr3 (hat3.imp (fun e => e.symm) (fun e k hk => by cases hk; exact e))); have z0 : w9.cell? ⟨q, 0, none⟩ = some (.slice A5 n5 c5) := HP.out.1.cell 0; have f0 := HP.out.1.frozen 0; have lq := HP.out.1.lt; clear hown3 hgr3 hat3)
  have HJ3 := Lib.hid HP.out.2
  generalize w9.setCell ⟨q, 0, none⟩ (.slice (some ⟨g2, 0, none⟩) (L.length + 1) cp2) = W3 at *
  clear HP z0 f0 lq y0 x0 x1 x2 x3 HJ2 hlq
  have y0 : W3.cell? ⟨q, 0, none⟩ = some (.slice (some ⟨g2, 0, none⟩) (L.length + 1) cp2) := HJ3.out.blk.cell 0
  have z0 : W3.cell? ⟨w.heap.size + 1 + 1 + 1, 0, none⟩ = some (.slice none 0 0) := HJ3.out.res.cell 0
  have v0 := HJ3.out.res.frozen 0
  have hlr := HJ3.out.res.lt
  go_wp2_with fail
  have HD := HJ3.out.done
  refine bodyPost_ret (v := .agg #[.slice (some ⟨g2, 0, none⟩) (L.length + 1) cp2]) (by simp [results, Try.results149, go_sem, z0, v0, hlr]) rfl ⟨_, rfl, HD.1, HD.2⟩
end Go.Proofs.Ytallglnmeeahiaa

/- The reference's measure of an expression (l10Size). -/
namespace Go.Proofs.Ytallglnmeeahiaa
set_option linter.unusedVariables false
set_option linter.unusedSimpArgs false
open Go.ChangeShapes Go.WideShapes Go.ChangeAt Go.RowKit
attribute [local go_sem] ext_cell ext_frozen ext_lt ext_lt1 ext_lt2 ext_lt3 ltn2 ltn3 ltn13 lts1 lts2 lts3

theorem SlI.headT {α : Type} {lo hi : Nat} {w : World} {E : α → List Value} {k n c m : Nat} {A : Option Addr} {xs ys : List α} (h : SlI lo hi w E k (.slice A n c) (xs ++ ys)) (hm : xs.length = m) : SlI lo hi w E k (.slice A m c) xs := by
  obtain ⟨A', c', hv, hl, hc, hx⟩ := h
  injection hv with h1 h2 h3
  subst h1 h3 hm
  rw [List.length_append] at hl
  refine ⟨_, c, rfl, by omega, hc, fun i x hi => hx i x ?_⟩
  rw [List.getElem?_append_left (List.getElem?_eq_some_iff.1 hi).1]
  exact hi
theorem SlI.tailT {α : Type} {lo hi : Nat} {w : World} {E : α → List Value} {k n c m j d q o : Nat} {xs ys : List α} (h : SlI lo hi w E k (.slice (some ⟨q, o, none⟩) n c) (xs ++ ys)) (hm : xs.length = m) (hj : ys.length = j) (hd : d = c - m) : SlI lo hi w E k (.slice (some ⟨q, o + m * k, none⟩) j d) ys := by
  obtain ⟨A', c', hv, hl, hc, hx⟩ := h
  injection hv with h1 h2 h3
  subst h1 h3 hm hj hd
  rw [List.length_append] at hl
  refine ⟨_, _, rfl, by omega, by omega, fun i x hi => ?_⟩
  obtain ⟨b, o', e, g1, g2, g3⟩ := hx (xs.length + i) x (by rw [List.getElem?_append_right (by omega), Nat.add_sub_cancel_left]; exact hi)
  injection e with e
  injection e with e1 e2
  subst e1 e2
  refine ⟨q, o + xs.length * k, rfl, g1, g2, fun t u hu => ?_⟩
  have := g3 t u hu
  rw [Nat.add_mul, ← Nat.add_assoc] at this
  exact this
theorem ar_leaf {t : Tok} (h : ar t = some 0) : t.1 = 1 ∨ t.1 = 2 ∨ t.1 = 3 := by
  unfold ar at h
  split at h
  · rename_i hk; exact hk.elim .inl (fun e => .inr (.inl e))
  · split at h
    · rename_i hk; exact .inr (.inr hk)
    · split at h
      · split at h <;> cases h
      · split at h
        · split at h <;> cases h
        · split at h
          · split at h <;> cases h
          · cases h
theorem ar_un {t : Tok} (h : ar t = some 1) : t = (6, 0, 0, 0) ∨ (t.1 = 7 ∧ t.2.1 = 0 ∧ 1 ≤ t.2.2.2 ∧ t.2.2.2 ≤ 3 ∧ 0 ≤ t.2.2.1 ∧ t.2.2.1 ≤ t.2.2.2) := by
  obtain ⟨k, l, lo, hi⟩ := t
  unfold ar at h
  simp only at h
  split at h
  · split at h <;> cases h
  · split at h
    · split at h <;> cases h
    · split at h
      · split at h <;> cases h
      · split at h
        · rename_i hk
          split at h
          · rename_i hp
            simp only [tokPlain, Bool.and_eq_true, beq_iff_eq] at hp
            obtain ⟨rfl, rfl, rfl⟩ := hp
            exact .inl (by rw [hk])
          · cases h
        · split at h
          · rename_i hk
            split at h
            · rename_i hp; exact .inr ⟨hk, hp⟩
            · cases h
          · cases h

set_option maxHeartbeats 8000000 in
set_option maxRecDepth 100000 in
theorem l10Size_any : ∀ (r : Tr) (ss : Value) (w : World), r.ok → SlE w cEd 4 ss (post r) → (post r).length ≤ 1048576 →
    Calls Try.prog 141 #[ss] w fun e w' => e = .returned (.int .i64 (sizeT r : Int)) ∧ Below w.heap.size w w'
  | .leaf t, ss, w, hr, hsl, hlen => by
    obtain ⟨t0, t1, t2, t3⟩ := t
    have hk := ar_leaf hr
    simp only at hk
    rw [post] at hsl
    obtain ⟨A, c, rfl, hl, hm, hx⟩ := hsl
    unfold maxLen at hm
    obtain ⟨q, o, rfl, -, hq, hcc⟩ := hx 0 (t0, t1, t2, t3) rfl
    have e0 := hcc 0 _ rfl
    have e1 := hcc 1 _ rfl
    have e2 := hcc 2 _ rfl
    have e3 := hcc 3 _ rfl
    simp only [Nat.add_zero, Nat.zero_mul, Nat.add_zero] at e0 e1 e2 e3
    rw [show (sizeT (.leaf (t0, t1, t2, t3)) : Int) = 1 by simp [sizeT]]
    clear hx hcc hlen hr
    have hb0 := (Below.refl w.heap.size w).alloc (Nat.le_refl _) (.cells #[.int .i64 t0, .int .i64 t1, .int .i64 t2, .int .i64 t3] 157)
    have HB := Lib.hid hb0
    clear hb0
    rcases hk with rfl | rfl | rfl
    all_goals
      go_enter Try.func141, Try.ntmps141
      go_wp2_with fail
      go_ret
      exact ⟨rfl, HB.out⟩
  | .un t a, ss, w, hr, hsl, hlen => by
    have ht := ar_un hr.1
    obtain ⟨m, hm0⟩ : ∃ m, m = (post a).length := ⟨_, rfl⟩
    rw [post] at hsl hlen
    have hlq : (post a ++ [t]).length = m + 1 := by rw [List.length_append, hm0]; rfl
    rw [hlq] at hlen
    have h0 := hsl
    obtain ⟨A, c, rfl, hl, hm, hx⟩ := hsl
    rw [hlq] at hl h0 ⊢
    unfold maxLen at hm
    have hxi : (post a ++ [t])[m]? = some t := by rw [List.getElem?_append_right (by omega)]; simp [hm0]
    obtain ⟨q, o, rfl, -, hq, hcc⟩ := hx _ t hxi
    obtain ⟨t0, t1, t2, t3⟩ := t
    have e0 := hcc 0 _ rfl
    have e1 := hcc 1 _ rfl
    have e2 := hcc 2 _ rfl
    have e3 := hcc 3 _ rfl
    simp only [Nat.add_zero] at e0
    have hb0 := (Below.refl w.heap.size w).alloc (Nat.le_refl _) (.cells #[.int .i64 t0, .int .i64 t1, .int .i64 t2, .int .i64 t3] 157)
    have bk := Blk.new w 157 #[.int .i64 t0, .int .i64 t1, .int .i64 t2, .int .i64 t3] _ rfl
    have h2 : SlE w cEd 4 (.slice (some ⟨q, o, none⟩) m c) (post a) := SlI.headT h0 hm0.symm
    have HSA := Lib.hid (fun (W : World) (hW : Below w.heap.size w W) => l10Size_any a _ W hr.2 (h2.keep hW) (by omega))
    have hsa := sizeT_le a
    obtain ⟨R, hR⟩ : ∃ R : Nat, R = sizeT (.un (t0, t1, t2, t3) a) := ⟨_, rfl⟩
    rw [← hR]
    rw [sizeT] at hR
    generalize sizeT a = sa at *
    have HB := Lib.hid hb0
    clear hx hcc hxi h0 h2 hr hm0 hlq
    rcases ht with ht | ⟨ht0, ht1, ht2, ht3, ht4, ht5⟩
    · injection ht with ht0 ht1
      injection ht1 with ht1 ht2
      injection ht2 with ht2 ht3
      subst ht0 ht1 ht2 ht3
      have HR := Lib.hid (show R = min 100000 (sa + 1) by simpa using hR)
      clear hR
      go_enter Try.func141, Try.ntmps141
      go_wp2_with fail
      refine (HSA.out _ HB.out).mono ?_
      rintro e w1 ⟨rfl, hb1⟩
      have HB1 := Lib.hid (below_trans HB.out hb1)
      clear hb1 e0 e1 e2 e3 bk HSA HB hm hl
      obtain ⟨S, hS⟩ : ∃ S : Int, S = (sa : Int) := ⟨_, rfl⟩
      rw [← hS]
      have HS := Lib.hid hS
      have hs1 : 1 ≤ S := by omega
      have hs2 : S ≤ 100000 := by omega
      clear hS hsa
      by_cases hlt : S + 1 < 100000
      · have hf : R = sa + 1 := by rw [HR.out]; have := HS.out; omega
        have HF := Lib.hid hf
        clear hf HR
        go_wp2_with fail
        go_ret
        exact ⟨ret_int (by rw [HF.out, HS.out]; rfl), HB1.out⟩
      · have hf : R = 100000 := by rw [HR.out]; have := HS.out; omega
        have HF := Lib.hid hf
        clear hf HR
        go_wp2_with fail
        go_ret
        exact ⟨ret_int (by rw [HF.out]; rfl), HB1.out⟩
    · simp only at ht0 ht1 ht2 ht3 ht4 ht5
      subst ht0 ht1
      obtain ⟨h, rfl⟩ := Int.eq_ofNat_of_zero_le (show 0 ≤ t3 by omega)
      have HR := Lib.hid (show R = min 100000 ((sa + 3) * h + 1) by simpa using hR)
      have hh : h = 1 ∨ h = 2 ∨ h = 3 := by omega
      clear hR ht2 ht3 ht5
      rcases hh with rfl | rfl | rfl
      · skip
        go_enter Try.func141, Try.ntmps141
        go_upto_region 11 with fail
        have hbk : Blk (w.alloc (.cells #[.int .i64 7, .int .i64 0, .int .i64 t2, .int .i64 _] 157)) w.heap.size 157 #[.int .i64 7, .int .i64 0, .int .i64 t2, .int .i64 _] := bk
        clear e0 e1 e2 e3 bk
        generalize w.alloc (.cells #[.int .i64 7, .int .i64 0, .int .i64 t2, .int .i64 _] 157) = W0 at *
        have HSA2 := Lib.hid (fun (u : World) => HSA.out (ext W0 u) (below_trans HB.out (ext_below W0 u)))
        have hlw := hbk.lt
        have x3 := hbk.cell 3
        clear hbk HSA
        refine wp_region_ext_lit (by kernel_rfl) (by kernel_rfl) ?_
        repeat (go_big_quiet_step ((with_reducible exact Calls.ext_of (HSA2.out _))))
        refine wpQuiet_nil ?_
        intro _ hw'
        obtain ⟨u, hw''⟩ := hw'
        subst hw''
        have hif : (if (sa : Int) + 3 + 1 < 100000 then (sa : Int) + 3 + 1 else 100000) = (R : Int) := by rw [HR.out]; split <;> omega
        rw [hif]
        clear hif hsa HR
        go_wp2_with fail
        go_ret
        exact ⟨rfl, below_trans HB.out (ext_below _ _)⟩
      · skip
        go_enter Try.func141, Try.ntmps141
        go_upto_region 11 with fail
        have hbk : Blk (w.alloc (.cells #[.int .i64 7, .int .i64 0, .int .i64 t2, .int .i64 _] 157)) w.heap.size 157 #[.int .i64 7, .int .i64 0, .int .i64 t2, .int .i64 _] := bk
        clear e0 e1 e2 e3 bk
        generalize w.alloc (.cells #[.int .i64 7, .int .i64 0, .int .i64 t2, .int .i64 _] 157) = W0 at *
        have HSA2 := Lib.hid (fun (u : World) => HSA.out (ext W0 u) (below_trans HB.out (ext_below W0 u)))
        have hlw := hbk.lt
        have x3 := hbk.cell 3
        clear hbk HSA
        refine wp_region_ext_lit (by kernel_rfl) (by kernel_rfl) ?_
        repeat (go_big_quiet_step ((with_reducible exact Calls.ext_of (HSA2.out _))))
        refine wpQuiet_nil ?_
        intro _ hw'
        obtain ⟨u, hw''⟩ := hw'
        subst hw''
        have hif : (if ((sa : Int) + 3) * 2 + 1 < 100000 then ((sa : Int) + 3) * 2 + 1 else 100000) = (R : Int) := by rw [HR.out]; split <;> omega
        rw [hif]
        clear hif hsa HR
        go_wp2_with fail
        go_ret
        exact ⟨rfl, below_trans HB.out (ext_below _ _)⟩
      · skip
        go_enter Try.func141, Try.ntmps141
        go_upto_region 11 with fail
        have hbk : Blk (w.alloc (.cells #[.int .i64 7, .int .i64 0, .int .i64 t2, .int .i64 _] 157)) w.heap.size 157 #[.int .i64 7, .int .i64 0, .int .i64 t2, .int .i64 _] := bk
        clear e0 e1 e2 e3 bk
        generalize w.alloc (.cells #[.int .i64 7, .int .i64 0, .int .i64 t2, .int .i64 _] 157) = W0 at *
        have HSA2 := Lib.hid (fun (u : World) => HSA.out (ext W0 u) (below_trans HB.out (ext_below W0 u)))
        have hlw := hbk.lt
        have x3 := hbk.cell 3
        clear hbk HSA
        refine wp_region_ext_lit (by kernel_rfl) (by kernel_rfl) ?_
        repeat (go_big_quiet_step ((with_reducible exact Calls.ext_of (HSA2.out _))))
        refine wpQuiet_nil ?_
        intro _ hw'
        obtain ⟨u, hw''⟩ := hw'
        subst hw''
        have hif : (if ((sa : Int) + 3) * 3 + 1 < 100000 then ((sa : Int) + 3) * 3 + 1 else 100000) = (R : Int) := by rw [HR.out]; split <;> omega
        rw [hif]
        clear hif hsa HR
        go_wp2_with fail
        go_ret
        exact ⟨rfl, below_trans HB.out (ext_below _ _)⟩
  | .bin t a b, ss, w, hr, hsl, hlen => by
    have ht := ar_bin hr.1
    obtain ⟨m, hm0⟩ : ∃ m, m = (post a).length := ⟨_, rfl⟩
    obtain ⟨j, hj0⟩ : ∃ j, j = (post b).length := ⟨_, rfl⟩
    have hj1 : 0 < j := by rw [hj0]; exact post_pos b
    rw [post] at hsl hlen
    have hlq : ((post a ++ post b) ++ [t]).length = m + j + 1 := by rw [List.length_append, List.length_append, hm0, hj0]; rfl
    rw [hlq] at hlen
    have h0 := hsl
    obtain ⟨A, c, rfl, hl, hm, hx⟩ := hsl
    rw [hlq] at hl h0 ⊢
    unfold maxLen at hm
    have hxi : ((post a ++ post b) ++ [t])[m + j]? = some t := by rw [List.getElem?_append_right (by simp [hm0, hj0])]; simp [hm0, hj0]
    obtain ⟨q, o, rfl, -, hq, hcc⟩ := hx _ t hxi
    obtain ⟨t0, t1, t2, t3⟩ := t
    have e0 := hcc 0 _ rfl
    have e1 := hcc 1 _ rfl
    have e2 := hcc 2 _ rfl
    have e3 := hcc 3 _ rfl
    simp only [Nat.add_zero] at e0
    have hb0 := (Below.refl w.heap.size w).alloc (Nat.le_refl _) (.cells #[.int .i64 t0, .int .i64 t1, .int .i64 t2, .int .i64 t3] 157)
    have bk := Blk.new w 157 #[.int .i64 t0, .int .i64 t1, .int .i64 t2, .int .i64 t3] _ rfl
    have h1 : SlE w cEd 4 (.slice (some ⟨q, o, none⟩) (m + j) c) (post a ++ post b) := SlI.headT h0 (by simp [hm0, hj0])
    have h2 : SlE w cEd 4 (.slice (some ⟨q, o, none⟩) m c) (post a) := SlI.headT h1 hm0.symm
    have h3 : SlE w cEd 4 (.slice (some ⟨q, o + m * 4, none⟩) j (c - m)) (post b) := SlI.tailT h1 hm0.symm hj0.symm rfl
    have HST := Lib.hid (fun (W : World) (hW : Below w.heap.size w W) => l8Start_any _ (post a) b W (h1.keep hW) hr.2.2 (by simp [← hm0, ← hj0]; omega))
    have HSA := Lib.hid (fun (W : World) (hW : Below w.heap.size w W) => l10Size_any a _ W hr.2.1 (h2.keep hW) (by omega))
    have HSB := Lib.hid (fun (W : World) (hW : Below w.heap.size w W) => l10Size_any b _ W hr.2.2 (h3.keep hW) (by omega))
    have hsa := sizeT_le a
    have hsb := sizeT_le b
    obtain ⟨R, hR⟩ : ∃ R : Nat, R = sizeT (.bin (t0, t1, t2, t3) a b) := ⟨_, rfl⟩
    rw [← hR]
    have HR := Lib.hid (show R = min 100000 (sizeT a + sizeT b + 1) by rw [hR, sizeT])
    rw [← hm0] at HST
    have HMC := Lib.hid (show ¬ c = m by omega)
    generalize sizeT a = sa at *
    generalize sizeT b = sb at *
    have HB := Lib.hid hb0
    clear hx hcc hxi h0 h1 h2 h3 hr hm0 hj0 hlq hR
    rcases ht with ht | ht
    all_goals
      injection ht with ht0 ht1
      injection ht1 with ht1 ht2
      injection ht2 with ht2 ht3
      subst ht0 ht1 ht2 ht3
      go_enter Try.func141, Try.ntmps141
      go_wp2_with fail
      refine (HST.out _ HB.out).mono ?_
      rintro e w1 ⟨rfl, hb1⟩
      have HB1 := Lib.hid (below_trans HB.out hb1)
      have hmc := HMC.out
      clear hb1 e0 e1 e2 e3 bk
      have HSA2 := Lib.hid (fun (u : World) => HSA.out (ext w1 u) (below_trans HB1.out (ext_below w1 u)))
      have HSB2 := Lib.hid (fun (u : World) => HSB.out (ext w1 u) (below_trans HB1.out (ext_below w1 u)))
      clear HSA HSB HST HMC HB
      go_upto_region 7 with fail
      refine wp_region_ext_lit (by kernel_rfl) (by kernel_rfl) ?_
      repeat (go_big_quiet_step ((first | with_reducible exact Calls.ext_of (HSA2.out _) | with_reducible exact Calls.ext_of (HSB2.out _))))
      refine wpQuiet_nil ?_
      intro _ hw'
      obtain ⟨u, hw''⟩ := hw'
      subst hw''
      have hif : (if (sa : Int) + (sb : Int) + 1 < 100000 then (sa : Int) + (sb : Int) + 1 else 100000) = (R : Int) := by rw [HR.out]; split <;> omega
      rw [hif]
      clear hif hsa hsb HR
      go_wp2_with fail
      go_ret
      exact ⟨rfl, below_trans HB1.out (ext_below _ _)⟩
end Go.Proofs.Ytallglnmeeahiaa

