/- 'laws.FnExactHasLoop' returns true for every automaton and any int, without any condition: the program's HasLoop equals the reference's and leaves its argument alone. -/
import Derived.Test.YtbhmgpclakkgbaaFrame
import Derived.Test.YtbhmgpclakkgbaaOpen
import Derived.Test.YtbhmgpclakkgbaaHelpSS
import Derived.Test.YtbhmgpclakkgbaaHasLoop
import Derived.Deep.RegionHeld3
namespace Go.Proofs.Ytbhmgpclakkgbaa.fnExactHasLoop
set_option linter.unusedVariables false
set_option linter.unusedSimpArgs false
open Go.ChangeShapes Go.WideShapes Go.ChangeAt Go.RowKit
attribute [local go_sem] ext_cell ext_frozen ext_lt ext_lt1 ext_lt2 ext_lt3

set_option maxHeartbeats 1000000 in
theorem walk (w : World) (v : Value) (a : Au) (hv : AuV 0 w.heap.size w v a) (s : Int) (ws : (Lit.int .i64 s).wf = true) :
    Calls Try.prog 4 #[v, .int .i64 s] w fun e w' => e = .returned (.bool true) ∧ Below w.heap.size w w' := by
  have hv0 := hv
  obtain ⟨A1, n1, c1, A2, n2, c2, rfl⟩ := hv.shape
  clear hv ws
  have hb0 : Below w.heap.size w (w.alloc (.cells #[.int .i64 a.start, .slice A1 n1 c1, .slice A2 n2 c2] 25)) := (Below.refl _ _).alloc (Nat.le_refl _) _
  by_cases hsz : szAu a 1048576 < 0
  · have hc := szAutomaton_any _ a 1048576 _ (hv0.keep hb0) (by omega) (by omega)
    rw [if_pos hsz] at hc
    have HC := Lib.hid hc
    clear hc
    go_enter Try.func4, Try.ntmps4
    go_wp2_with fail
    refine HC.out.mono ?_
    rintro e w1 ⟨rfl, hb1⟩
    go_wp2_with fail
    go_ret
    exact ⟨rfl, below_trans hb0 hb1⟩
  · have hle := szAu_le a 1048576 (by omega)
    obtain ⟨hle0, hle1, hle2, hle3⟩ := hle
    have h1 : a.accept.length ≤ 1048576 := by omega
    have h2 : a.next.length ≤ 1048576 := by omega
    have h3 : ∀ xs ∈ a.next, xs.length ≤ 1048576 := fun xs hx => by have := hle3 xs hx; omega
    have hc := szAutomaton_any _ a 1048576 _ (hv0.keep hb0) (by omega) (by omega)
    rw [if_neg hsz] at hc
    have HC := Lib.hid hc
    have hsz0 : 0 ≤ szAu a 1048576 := by omega
    have H3 := Lib.hid h3
    clear hc hle1 hle2 hle3 h3
    go_enter Try.func4, Try.ntmps4
    go_wp2_with fail
    refine HC.out.mono ?_
    rintro e w1 ⟨rfl, hb1⟩
    have b0 := (Blk.new w _ _ w.heap.size rfl).keep hb1
    have hb2 := below_trans hb0 hb1
    have x0 : w1.cell? ⟨w.heap.size, 0, none⟩ = some _ := b0.cell 0
    have x1 : w1.cell? ⟨w.heap.size, 1, none⟩ = some _ := b0.cell 1
    have x2 : w1.cell? ⟨w.heap.size, 2, none⟩ = some _ := b0.cell 2
    clear hb1 hb0
    go_wp2_with fail
    refine (toAutomaton_any _ a _ (hv0.keep hb2) h1 h2 H3.out).mono ?_
    rintro e w2 ⟨v1, rfl, ho1, hb3⟩
    have hb4 := below_trans hb2 hb3
    have b0 := b0.keep hb3
    have hw1 := ho1.view.all (Nat.le_refl _)
    clear hb2 hb3 x0 x1 x2 ho1
    have x0 : w2.cell? ⟨w.heap.size, 0, none⟩ = some _ := b0.cell 0
    have x1 : w2.cell? ⟨w.heap.size, 1, none⟩ = some _ := b0.cell 1
    have x2 : w2.cell? ⟨w.heap.size, 2, none⟩ = some _ := b0.cell 2
    go_wp2_with fail
    refine (specHasLoop _ a s _ hw1).mono ?_
    rintro e w3 ⟨g1, rfl, hg1, hb5⟩
    have hb6 := below_trans hb4 hb5
    have b0 := b0.keep hb5
    have HG1 := Lib.hid hg1
    clear hb4 hb5 x0 x1 x2 hw1 hg1
    have x0 : w3.cell? ⟨w.heap.size, 0, none⟩ = some _ := b0.cell 0
    have x1 : w3.cell? ⟨w.heap.size, 1, none⟩ = some _ := b0.cell 1
    have x2 : w3.cell? ⟨w.heap.size, 2, none⟩ = some _ := b0.cell 2
    go_wp2_with fail
    refine (toAutomaton_any _ a _ (hv0.keep hb6) h1 h2 H3.out).mono ?_
    rintro e w4 ⟨v2, rfl, ho2, hb7⟩
    have hb8 := below_trans hb6 hb7
    have b0 := b0.keep hb7
    have hw2 := ho2.view.all (Nat.le_refl _)
    obtain ⟨A3, n3, c3, A4, n4, c4, rfl⟩ := hw2.shape
    clear hb6 hb7 x0 x1 x2 ho2
    have hb9 : Below w4.heap.size w4 (w4.alloc (.cells #[.int .i64 a.start, .slice A3 n3 c3, .slice A4 n4 c4] 28)) := (Below.refl _ _).alloc (Nat.le_refl _) _
    have b1 := Blk.new w4 28 #[.int .i64 a.start, .slice A3 n3 c3, .slice A4 n4 c4] w4.heap.size rfl
    go_wp2_with fail
    refine (implHasLoop _ a s _ (hw2.keep hb9)).mono ?_
    rintro e w5 ⟨g2, rfl, hg2, hb10⟩
    have hgg : g2 = g1 := by
      have h1 := HG1.out
      cases g1 <;> cases g2 <;> simp_all
    subst hgg
    have b1 := b1.keep hb10
    have hw4 := b0.lt
    have b0 := (b0.alloc (.cells #[.int .i64 a.start, .slice A3 n3 c3, .slice A4 n4 c4] 28)).keep hb10
    have hb11 := below_trans hb8 (below_trans hb9 hb10)
    have hw3 := hw2.keep (below_trans hb9 hb10)
    clear hg2 hb8 hb9 hb10 hw2
    have hlt1 := b0.lt
    have hlt2 := b1.lt
    have x0 : w5.cell? ⟨w.heap.size, 0, none⟩ = some _ := b0.cell 0
    have x1 : w5.cell? ⟨w.heap.size, 1, none⟩ = some _ := b0.cell 1
    have x2 : w5.cell? ⟨w.heap.size, 2, none⟩ = some _ := b0.cell 2
    have y0 : w5.cell? ⟨w4.heap.size, 0, none⟩ = some _ := b1.cell 0
    have y1 : w5.cell? ⟨w4.heap.size, 1, none⟩ = some _ := b1.cell 1
    have y2 : w5.cell? ⟨w4.heap.size, 2, none⟩ = some _ := b1.cell 2
    go_wp2_with fail
    go_region_held3 (fun w' => w'.cell? ⟨w.heap.size, 0, none⟩ = some (.int .i64 a.start) ∧ w'.cell? ⟨w.heap.size, 1, none⟩ = some (.slice A1 n1 c1) ∧ w'.cell? ⟨w.heap.size, 2, none⟩ = some (.slice A2 n2 c2) ∧ w'.cell? ⟨w4.heap.size, 0, none⟩ = some (.int .i64 a.start) ∧ w'.cell? ⟨w4.heap.size, 1, none⟩ = some (.slice A3 n3 c3) ∧ w'.cell? ⟨w4.heap.size, 2, none⟩ = some (.slice A4 n4 c4))
      (first | (exact ⟨x0, x1, x2, y0, y1, y2⟩) | (exact ⟨(hb12.cell (p := ⟨_, _, none⟩) hlt1).trans x0, (hb12.cell (p := ⟨_, _, none⟩) hlt1).trans x1, (hb12.cell (p := ⟨_, _, none⟩) hlt1).trans x2, (hb12.cell (p := ⟨_, _, none⟩) hlt2).trans y0, (hb12.cell (p := ⟨_, _, none⟩) hlt2).trans y1, (hb12.cell (p := ⟨_, _, none⟩) hlt2).trans y2⟩) | (exact ⟨(hb13.cell (p := ⟨_, _, none⟩) (Nat.lt_of_lt_of_le hlt1 hb12.size)).trans ((hb12.cell (p := ⟨_, _, none⟩) hlt1).trans x0), (hb13.cell (p := ⟨_, _, none⟩) (Nat.lt_of_lt_of_le hlt1 hb12.size)).trans ((hb12.cell (p := ⟨_, _, none⟩) hlt1).trans x1), (hb13.cell (p := ⟨_, _, none⟩) (Nat.lt_of_lt_of_le hlt1 hb12.size)).trans ((hb12.cell (p := ⟨_, _, none⟩) hlt1).trans x2), (hb13.cell (p := ⟨_, _, none⟩) (Nat.lt_of_lt_of_le hlt2 hb12.size)).trans ((hb12.cell (p := ⟨_, _, none⟩) hlt2).trans y0), (hb13.cell (p := ⟨_, _, none⟩) (Nat.lt_of_lt_of_le hlt2 hb12.size)).trans ((hb12.cell (p := ⟨_, _, none⟩) hlt2).trans y1), (hb13.cell (p := ⟨_, _, none⟩) (Nat.lt_of_lt_of_le hlt2 hb12.size)).trans ((hb12.cell (p := ⟨_, _, none⟩) hlt2).trans y2)⟩))
      (first | (go_at_call 17; refine (toAutomaton_any _ a _ (AuV.keep (w := w) hv0 hb11.drew) h1 h2 H3.out).mono ?_; rintro e w6 ⟨v3, rfl, ho3, hb12⟩) | (go_at_call 19; refine (eqAutomaton_same _ _ a _ (AuV.keep (w := w5.drew) hw3 hb12) (ho3.view.all (Nat.le_refl _))).mono ?_; rintro e w7 ⟨rfl, hb13⟩))
    all_goals go_wp2_with fail
    all_goals go_ret
    all_goals exact ⟨rfl, below_trans hb11.drew (below_trans hb12 hb13)⟩

end Go.Proofs.Ytbhmgpclakkgbaa.fnExactHasLoop
