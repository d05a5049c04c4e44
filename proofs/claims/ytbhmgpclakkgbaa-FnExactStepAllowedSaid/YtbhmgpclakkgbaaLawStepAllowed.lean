/- 'laws.FnExactStepAllowed' returns true for every graph, int and step, without any condition: the program's StepAllowed equals the reference's and leaves its argument alone. -/
import Derived.Test.YtbhmgpclakkgbaaFrame
import Derived.Test.YtbhmgpclakkgbaaOpen
import Derived.Test.YtbhmgpclakkgbaaHold
import Derived.Test.YtbhmgpclakkgbaaHelpGraph
import Derived.Test.YtbhmgpclakkgbaaHelpStep
import Derived.Test.YtbhmgpclakkgbaaStepI
import Derived.Test.YtbhmgpclakkgbaaStepS
import Derived.Deep.RegionHeld3
namespace Go.Proofs.Ytbhmgpclakkgbaa.fnExactStepAllowed
set_option linter.unusedVariables false
set_option linter.unusedSimpArgs false
open Go.ChangeShapes Go.WideShapes Go.ChangeAt Go.RowKit
attribute [local go_sem] ext_cell ext_frozen ext_lt ext_lt1 ext_lt2 ext_lt3 ltn2 ltn3 ltn13 lts1 lts2 lts3

set_option maxHeartbeats 2000000 in
theorem walk (w : World) (v : Value) (g : Gr) (hv : GrV 0 w.heap.size w v g) (c : Int) (wc : (Lit.int .i64 c).wf = true) (v2 : Value) (s : St) (hs2 : v2 = .agg #[.int .i64 s.1, .bool s.2]) :
    Calls Try.prog 5 #[v, .int .i64 c, v2] w fun e w' => e = .returned (.bool true) ∧ Below w.heap.size w w' := by
  subst hs2
  have hv0 := hv
  obtain ⟨A1, n1, c1, A2, n2, c2, rfl⟩ := hv.shape
  clear hv wc
  obtain ⟨sid, sinv⟩ := s
  have hb0 : Below w.heap.size w ((w.alloc (.cells #[.slice A1 n1 c1, .slice A2 n2 c2] 37)).alloc (.cells #[.int .i64 sid, .bool sinv] 39)) := ((Below.refl _ _).alloc (Nat.le_refl _) _).alloc (by simp) _
  simp only
  by_cases hsz : szGr g 1048576 < 0
  · have hc := szGraph_any _ g 1048576 _ (hv0.keep hb0) (by omega) (by omega)
    have HC := Lib.hid hc
    have hneg : decide (szGr g 1048576 < 0) = true := by simpa using hsz
    clear hc
    go_enter Try.func5, Try.ntmps5
    go_wp2_with fail
    refine HC.out.mono ?_
    rintro e w1 ⟨rfl, hb1⟩
    go_wp2_with fail
    go_ret
    exact ⟨rfl, below_trans hb0 hb1⟩
  · obtain ⟨h1, h2, -, -⟩ := szGr_le g 1048576 hsz
    have h1 : g.vals.length ≤ 1048576 := h1
    have h2 : g.edges.length ≤ 1048576 := h2
    have hc := szGraph_any _ g 1048576 _ (hv0.keep hb0) (by omega) (by omega)
    have hneg : decide (szGr g 1048576 < 0) = false := by simpa using hsz
    have HC := Lib.hid hc
    clear hc hsz
    generalize szGr g 1048576 = z at hneg HC
    go_enter Try.func5, Try.ntmps5
    go_wp2_with fail
    refine HC.out.mono ?_
    rintro e w1 ⟨rfl, hb1⟩
    have b0 := ((Blk.new w _ _ w.heap.size rfl).alloc _).keep hb1
    have b1 := (Blk.new (w.alloc _) _ _ (w.heap.size + 1) (by simp)).keep hb1
    have hb2 := below_trans hb0 hb1
    clear hb1 hb0
    have x0 : w1.cell? ⟨w.heap.size, 0, none⟩ = some _ := b0.cell 0
    have x1 : w1.cell? ⟨w.heap.size, 1, none⟩ = some _ := b0.cell 1
    have y0 : w1.cell? ⟨w.heap.size + 1, 0, none⟩ = some _ := b1.cell 0
    have y1 : w1.cell? ⟨w.heap.size + 1, 1, none⟩ = some _ := b1.cell 1
    have hl0 := b0.lt
    have hl1 := b1.lt
    clear b0 b1
    go_wp2_with fail
    go_region_held3 (fun w' => Below w.heap.size w w' ∧ w1.heap.size ≤ w'.heap.size ∧ w'.cell? ⟨w.heap.size, 0, none⟩ = some (.slice A1 n1 c1) ∧ w'.cell? ⟨w.heap.size, 1, none⟩ = some (.slice A2 n2 c2) ∧ w'.cell? ⟨w.heap.size + 1, 0, none⟩ = some (.int .i64 sid) ∧ w'.cell? ⟨w.heap.size + 1, 1, none⟩ = some (.bool sinv))
      (first | (exact ⟨hb2.drew, Nat.le_refl _, x0, x1, y0, y1⟩) | (exact hold4 hl0 hl0 hl1 hl1 (by assumption) (by assumption)))
      (first | (go_at_call 24; refine (toGraph_any _ g _ (hv0.keep (hold_below (by assumption))) h1 h2).mono ?_; rintro e w6 ⟨v3, rfl, ho3, hb12⟩) | (go_at_call 25; refine (toStep_any (sid, sinv) _).mono ?_; rintro e w7 ⟨rfl, hb13⟩) | (go_at_call 23; refine (specStepAllowed v3 g c (sid, sinv) _ (by first | exact ho3.view.all (Nat.le_refl _) | exact (ho3.view.all (Nat.le_refl _)).keep hb13)).mono ?_; rintro e w8 ⟨rfl, hb14⟩))
    all_goals clear x0 x1 y0 y1
    all_goals (rename_i hh; obtain ⟨hb15, hs8, x0, x1, y0, y1⟩ := hh)
    all_goals clear hb12 hb13 hb14 ho3
    all_goals go_wp2_with fail
    all_goals (refine (toGraph_any _ g _ (hv0.keep hb15) h1 h2).mono ?_; rintro e w9 ⟨v4, rfl, ho4, hb16⟩)
    all_goals have hl0' := Nat.lt_of_lt_of_le (Nat.lt_of_lt_of_le hl0 hs8) hb16.size
    all_goals have hl1' := Nat.lt_of_lt_of_le (Nat.lt_of_lt_of_le hl1 hs8) hb16.size
    all_goals have hw4 := ho4.view.all (Nat.le_refl _)
    all_goals obtain ⟨A3, n3, c3, A4, n4, c4, rfl⟩ := hw4.shape
    all_goals have hba : Below w9.heap.size w9 (w9.alloc (.cells #[.slice A3 n3 c3, .slice A4 n4 c4] 44)) := (Below.refl _ _).alloc (Nat.le_refl _) _
    all_goals have hbb := below_trans hb16 hba
    all_goals have x0 := (hbb.cell (p := ⟨_, _, none⟩) (Nat.lt_of_lt_of_le hl0 hs8)).trans x0
    all_goals have x1 := (hbb.cell (p := ⟨_, _, none⟩) (Nat.lt_of_lt_of_le hl0 hs8)).trans x1
    all_goals have y0 := (hbb.cell (p := ⟨_, _, none⟩) (Nat.lt_of_lt_of_le hl1 hs8)).trans y0
    all_goals have y1 := (hbb.cell (p := ⟨_, _, none⟩) (Nat.lt_of_lt_of_le hl1 hs8)).trans y1
    all_goals have bz := Blk.new w9 44 #[.slice A3 n3 c3, .slice A4 n4 c4] w9.heap.size rfl
    all_goals have z0 : (w9.alloc (.cells #[.slice A3 n3 c3, .slice A4 n4 c4] 44)).cell? ⟨w9.heap.size, 0, none⟩ = some _ := bz.cell 0
    all_goals have z1 : (w9.alloc (.cells #[.slice A3 n3 c3, .slice A4 n4 c4] 44)).cell? ⟨w9.heap.size, 1, none⟩ = some _ := bz.cell 1
    all_goals have hl2 := bz.lt
    all_goals have hb17 := below_trans hb15 hbb
    all_goals have hw5 := hw4.keep hba
    all_goals have hl0 := Nat.lt_of_lt_of_le hl0' hba.size
    all_goals have hl1 := Nat.lt_of_lt_of_le hl1' hba.size
    all_goals clear bz hw4 hba hbb hb16 hb15 hs8 ho4 hl0' hl1' hb2
    all_goals go_wp2_with fail
    all_goals generalize w9.alloc (.cells #[.slice A3 n3 c3, .slice A4 n4 c4] 44) = w10 at x0 x1 y0 y1 z0 z1 hb17 hw5 hl0 hl1 hl2 ⊢
    all_goals go_region_held3 (fun w' => Below w.heap.size w w' ∧ w10.heap.size ≤ w'.heap.size ∧ w'.cell? ⟨w.heap.size, 0, none⟩ = some (.slice A1 n1 c1) ∧ w'.cell? ⟨w.heap.size, 1, none⟩ = some (.slice A2 n2 c2) ∧ w'.cell? ⟨w9.heap.size, 0, none⟩ = some (.slice A3 n3 c3) ∧ w'.cell? ⟨w9.heap.size, 1, none⟩ = some (.slice A4 n4 c4) ∧ w'.cell? ⟨w.heap.size + 1, 0, none⟩ = some (.int .i64 sid) ∧ w'.cell? ⟨w.heap.size + 1, 1, none⟩ = some (.bool sinv))
      (first | (exact ⟨hb17.drew, Nat.le_refl _, x0, x1, z0, z1, y0, y1⟩) | (exact hold6 hl0 hl0 hl2 hl2 hl1 hl1 (by assumption) (by assumption)))
      (first | (go_at_call 25; refine (toStep_any (sid, sinv) _).mono ?_; rintro e w11 ⟨rfl, hb18⟩) | (go_at_call 26; refine (implStepAllowed _ g c (sid, sinv) _ (GrV.keep (w := w10.drew) hw5 hb18)).mono ?_; rintro e w12 ⟨rfl, hb19⟩))
    all_goals clear x0 x1 y0 y1 z0 z1
    all_goals (rename_i hh; obtain ⟨hb20, hs12, x0, x1, z0, z1, -, -⟩ := hh)
    all_goals have hw6 := GrV.keep (GrV.keep (w := w10.drew) hw5 hb18) hb19
    all_goals have hl0 := Nat.lt_of_lt_of_le hl0 hs12
    all_goals have hl2 := Nat.lt_of_lt_of_le hl2 hs12
    all_goals clear hb17 hb18 hb19 hw5 hs12
    all_goals generalize stepAllowed g c (sid, sinv) = bb
    all_goals go_wp2_with fail
    all_goals go_region_held3 (fun w' => Below w.heap.size w w' ∧ w12.heap.size ≤ w'.heap.size ∧ w'.cell? ⟨w.heap.size, 0, none⟩ = some (.slice A1 n1 c1) ∧ w'.cell? ⟨w.heap.size, 1, none⟩ = some (.slice A2 n2 c2) ∧ w'.cell? ⟨w9.heap.size, 0, none⟩ = some (.slice A3 n3 c3) ∧ w'.cell? ⟨w9.heap.size, 1, none⟩ = some (.slice A4 n4 c4))
      (first | (exact ⟨hb20.drew, Nat.le_refl _, x0, x1, z0, z1⟩) | (exact hold4 hl0 hl0 hl2 hl2 (by assumption) (by assumption)))
      (first | (go_at_call 24; refine (toGraph_any _ g _ (hv0.keep (hold_below (by assumption))) h1 h2).mono ?_; rintro e w13 ⟨v5, rfl, ho5, hb21⟩) | (go_at_call 27; refine (eqGraph_same _ _ g _ (GrV.keep (w := w12.drew) hw6 hb21) (ho5.view.all (Nat.le_refl _))).mono ?_; rintro e w14 ⟨rfl, hb22⟩))
    all_goals (rename_i hh; have hfin := hh.1; clear hh)
    all_goals go_wp2_with fail
    all_goals go_ret
    all_goals exact ⟨rfl, hfin⟩

end Go.Proofs.Ytbhmgpclakkgbaa.fnExactStepAllowed
