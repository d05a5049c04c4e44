/- 'laws.FnExactCountWalks' returns true for all arguments, without any condition: the program's CountWalks equals the reference's and leaves its arguments alone. -/
import Derived.Test.YtgdgelkeflihpaaPartGPKKMHKD
import Derived.Test.YtgdgelkeflihpaaPartHDNEGFCA
import Derived.Test.YtgdgelkeflihpaaPartGBHIGBBP
import Derived.Test.YtgdgelkeflihpaaPartOBIJGMOF
import Derived.Deep.RegionHeld3
import Derived.Test.YtgdgelkeflihpaaPartBOEDKPDF
namespace Go.Proofs.Ytgdgelkeflihpaa.fnExactCountWalks
set_option linter.unusedVariables false
set_option linter.unusedSimpArgs false
open Go.ChangeShapes Go.WideShapes Go.ChangeAt Go.RowKit
attribute [local go_sem] ext_cell ext_frozen ext_lt ext_lt1 ext_lt2 ext_lt3 ltn2 ltn3 ltn13 lts1 lts2 lts3

set_option maxRecDepth 100000 in
set_option maxHeartbeats 4000000 in
theorem walk (w : World) (v0 : Value) (g : Gr) (hv0 : GrV 0 w.heap.size w v0 g) (v1 : Value) (a : Au) (hv1 : AuV 0 w.heap.size w v1 a) (x : Int) (wf2 : (Lit.int .i64 x).wf = true) (y : Int) (wf3 : (Lit.int .i64 y).wf = true) (n : Int) (wf4 : (Lit.int .i64 n).wf = true) :
    Calls Try.prog 5 #[v0, v1, .int .i64 x, .int .i64 y, .int .i64 n] w fun e w' => e = .returned (.bool true) ∧ Below w.heap.size w w' := by
  have hvo0 := hv0
  obtain ⟨A0, n0, c0, B0, m0, d0, rfl⟩ := hv0.shape
  clear hv0
  have hvo1 := hv1
  obtain ⟨A1, n1, c1, B1, m1, d1, rfl⟩ := hv1.shape
  clear hv1
  clear wf2
  clear wf3
  clear wf4
  have hb0 : Below w.heap.size w ((w.alloc (.cells #[.slice A0 n0 c0, .slice B0 m0 d0] 40)).alloc (.cells #[.int .i64 a.start, .slice A1 n1 c1, .slice B1 m1 d1] 25)) := ((Below.refl _ _).alloc (Nat.le_refl _) _).alloc (by simp <;> omega) _
  go_enter Try.func5, Try.ntmps5
  go_wp2_with fail
  refine (szGraph_any _ g 1048576 _ (hvo0.keep hb0) (by omega) (by omega)).mono ?_
  rintro e ws0 ⟨rfl, hbws0⟩
  have bl0 := ((Blk.new w _ _ w.heap.size rfl).alloc _).keep hbws0
  have l0 := bl0.lt
  have y0_0 : ws0.cell? ⟨w.heap.size, 0, none⟩ = some (.slice A0 n0 c0) := bl0.cell 0
  have y0_1 : ws0.cell? ⟨w.heap.size, 1, none⟩ = some (.slice B0 m0 d0) := bl0.cell 1
  have bl1 := (Blk.new (w.alloc _) _ _ (w.heap.size + 1) (by simp)).keep hbws0
  have l1 := bl1.lt
  have y1_0 : ws0.cell? ⟨w.heap.size + 1, 0, none⟩ = some (.int .i64 a.start) := bl1.cell 0
  have y1_1 : ws0.cell? ⟨w.heap.size + 1, 1, none⟩ = some (.slice A1 n1 c1) := bl1.cell 1
  have y1_2 : ws0.cell? ⟨w.heap.size + 1, 2, none⟩ = some (.slice B1 m1 d1) := bl1.cell 2
  have hb := below_trans hb0 hbws0
  have hs : Below w.heap.size w ws0 ∧ ws0.heap.size ≤ ws0.heap.size ∧ ws0.cell? ⟨w.heap.size, 0, none⟩ = some (.slice A0 n0 c0) ∧ ws0.cell? ⟨w.heap.size, 1, none⟩ = some (.slice B0 m0 d0) ∧ ws0.cell? ⟨w.heap.size + 1, 0, none⟩ = some (.int .i64 a.start) ∧ ws0.cell? ⟨w.heap.size + 1, 1, none⟩ = some (.slice A1 n1 c1) ∧ ws0.cell? ⟨w.heap.size + 1, 2, none⟩ = some (.slice B1 m1 d1) := ⟨hb, Nat.le_refl _, y0_0, y0_1, y1_0, y1_1, y1_2⟩
  clear bl0 bl1 hb0 hbws0
  have HS := Lib.hid hs
  clear hs
  by_cases hz : (szGr g 1048576) < 0
  · have hzd : decide ((szGr g 1048576) < 0) = true := by simpa using hz
    clear hz
    go_wp2_with fail
    go_ret
    exact ⟨rfl, hb⟩
  have hzd : decide ((szGr g 1048576) < 0) = false := by simpa using hz
  obtain ⟨ha0, hc0, hz0, hzm⟩ := szGr_le g 1048576 hz
  have ha0 : g.vals.length ≤ 1048576 := by omega
  have hc0 : g.edges.length ≤ 1048576 := by omega
  generalize (szGr g 1048576) = z0 at hzd hz0 hzm ⊢
  clear hz
  have hzm0 : z0 ≤ 1048576 := by omega
  have hz00 := hz0
  clear hz0 hzm
  go_wp2_with fail
  clear hzd
  refine (szAutomatonD_any _ a z0 _ (hvo1.keep hb) (by omega) (by omega)).mono ?_
  rintro e ws1 ⟨rfl, hbws1⟩
  have hs := hold5 l0 l0 l1 l1 l1 hbws1 HS.out
  clear hb y0_0 y0_1 y1_0 y1_1 y1_2 HS
  have HS := Lib.hid hs
  obtain ⟨hb, -, y0_0, y0_1, y1_0, y1_1, y1_2⟩ := hs
  by_cases hz : (szAuD a z0) < 0
  · have hzd : decide ((szAuD a z0) < 0) = true := by simpa using hz
    clear hz
    go_wp2_with fail
    go_ret
    exact ⟨rfl, hb⟩
  have hzd : decide ((szAuD a z0) < 0) = false := by simpa using hz
  obtain ⟨ha1, hc1, hd1, hz0, hzm⟩ := szAuD_le a z0 (by omega) hz
  have HD1 := Lib.hid hd1
  clear hd1
  generalize (szAuD a z0) = z1 at hzd hz0 hzm ⊢
  clear hz
  skip
  have hzm1 : z1 ≤ 1048576 := by omega
  have hz01 := hz0
  clear hz0 hzm
  go_wp2_with fail
  clear hzd
  have hsz := HS.out.2.1
  go_region_held3 (fun w' => Below w.heap.size w w' ∧ ws0.heap.size ≤ w'.heap.size ∧ w'.cell? ⟨w.heap.size, 0, none⟩ = some (.slice A0 n0 c0) ∧ w'.cell? ⟨w.heap.size, 1, none⟩ = some (.slice B0 m0 d0) ∧ w'.cell? ⟨w.heap.size + 1, 0, none⟩ = some (.int .i64 a.start) ∧ w'.cell? ⟨w.heap.size + 1, 1, none⟩ = some (.slice A1 n1 c1) ∧ w'.cell? ⟨w.heap.size + 1, 2, none⟩ = some (.slice B1 m1 d1))
    (first | (exact ⟨hb.drew, hsz, y0_0, y0_1, y1_0, y1_1, y1_2⟩) | (exact hold5 l0 l0 l1 l1 l1 (by assumption) (by assumption)))
    (first | (go_at_call 26; refine (toGraph_any _ g _ (hvo0.keep (hold_below (by assumption))) ha0 hc0).mono ?_; rintro e wc0 ⟨vc0, rfl, hoc0, hbc0⟩) | (go_at_call 15; refine (toAutomaton_any _ a _ (hvo1.keep (hold_below (by assumption))) ha1 hc1 HD1.out).mono ?_; rintro e wc1 ⟨vc1, rfl, hoc1, hbc1⟩) | (go_at_call 25; refine (specCountWalks vc0 vc1 g a x y n _ (by first | exact (hoc0.view.all (Nat.le_refl _)) | exact ((hoc0.view.all (Nat.le_refl _)).keep hbc1)) (by first | exact (hoc1.view.all (Nat.le_refl _)) | exact ((hoc1.view.all (Nat.le_refl _)).keep hbc0))).mono ?_; rintro e wres ⟨rfl, hbres⟩))
  all_goals clear hb y0_0 y0_1 y1_0 y1_1 y1_2
  all_goals (rename_i hh; have HS := Lib.hid hh; obtain ⟨hb, -, y0_0, y0_1, y1_0, y1_1, y1_2⟩ := hh)
  all_goals clear hsz
  all_goals go_wp2_with fail
  all_goals (refine (toGraph_any _ g _ (hvo0.keep hb) ha0 hc0).mono ?_; rintro e wk0 ⟨vk0, rfl, hok0, hbk0⟩)
  all_goals have hw0 := hok0.view.all (Nat.le_refl _)
  all_goals obtain ⟨C0, p0, e0, D0, q0, f0, rfl⟩ := hw0.shape
  all_goals have hba : Below wk0.heap.size wk0 (wk0.alloc (.cells #[.slice C0 p0 e0, .slice D0 q0 f0] 45)) := (Below.refl _ _).alloc (Nat.le_refl _) _
  all_goals have hs := hold5 l0 l0 l1 l1 l1 (below_trans hbk0 hba) HS.out
  all_goals have bz := Blk.new wk0 45 #[.slice C0 p0 e0, .slice D0 q0 f0] wk0.heap.size rfl
  all_goals clear hb y0_0 y0_1 y1_0 y1_1 y1_2
  all_goals obtain ⟨hb, hsz, y0_0, y0_1, y1_0, y1_1, y1_2⟩ := hs
  all_goals have l0 := Nat.lt_of_lt_of_le l0 hsz
  all_goals have l1 := Nat.lt_of_lt_of_le l1 hsz
  all_goals have l2 := bz.lt
  all_goals have y2_0 : (wk0.alloc (.cells #[.slice C0 p0 e0, .slice D0 q0 f0] 45)).cell? ⟨wk0.heap.size, 0, none⟩ = some (.slice C0 p0 e0) := bz.cell 0
  all_goals have y2_1 : (wk0.alloc (.cells #[.slice C0 p0 e0, .slice D0 q0 f0] 45)).cell? ⟨wk0.heap.size, 1, none⟩ = some (.slice D0 q0 f0) := bz.cell 1
  all_goals have hw0 := hw0.keep hba
  all_goals clear bz hba hbk0 hok0 HS hsz
  all_goals go_wp2_with fail
  all_goals generalize wk0.alloc (.cells #[.slice C0 p0 e0, .slice D0 q0 f0] 45) = wl0 at hb y0_0 y0_1 y1_0 y1_1 y1_2 y2_0 y2_1 l0 l1 l2 hw0 ⊢
  all_goals have hs : Below w.heap.size w wl0 ∧ wl0.heap.size ≤ wl0.heap.size ∧ wl0.cell? ⟨w.heap.size, 0, none⟩ = some (.slice A0 n0 c0) ∧ wl0.cell? ⟨w.heap.size, 1, none⟩ = some (.slice B0 m0 d0) ∧ wl0.cell? ⟨w.heap.size + 1, 0, none⟩ = some (.int .i64 a.start) ∧ wl0.cell? ⟨w.heap.size + 1, 1, none⟩ = some (.slice A1 n1 c1) ∧ wl0.cell? ⟨w.heap.size + 1, 2, none⟩ = some (.slice B1 m1 d1) ∧ wl0.cell? ⟨wk0.heap.size, 0, none⟩ = some (.slice C0 p0 e0) ∧ wl0.cell? ⟨wk0.heap.size, 1, none⟩ = some (.slice D0 q0 f0) := ⟨hb, Nat.le_refl _, y0_0, y0_1, y1_0, y1_1, y1_2, y2_0, y2_1⟩
  all_goals have HS := Lib.hid hs
  all_goals clear hs
  all_goals (refine (toAutomaton_any _ a _ (hvo1.keep hb) ha1 hc1 HD1.out).mono ?_; rintro e wk1 ⟨vk1, rfl, hok1, hbk1⟩)
  all_goals have hw1 := hok1.view.all (Nat.le_refl _)
  all_goals have hw0 := hw0.keep hbk1
  all_goals obtain ⟨C1, p1, e1, D1, q1, f1, rfl⟩ := hw1.shape
  all_goals have hba : Below wk1.heap.size wk1 (wk1.alloc (.cells #[.int .i64 a.start, .slice C1 p1 e1, .slice D1 q1 f1] 29)) := (Below.refl _ _).alloc (Nat.le_refl _) _
  all_goals have hs := hold7 l0 l0 l1 l1 l1 l2 l2 (below_trans hbk1 hba) HS.out
  all_goals have bz := Blk.new wk1 29 #[.int .i64 a.start, .slice C1 p1 e1, .slice D1 q1 f1] wk1.heap.size rfl
  all_goals clear hb y0_0 y0_1 y1_0 y1_1 y1_2 y2_0 y2_1
  all_goals obtain ⟨hb, hsz, y0_0, y0_1, y1_0, y1_1, y1_2, y2_0, y2_1⟩ := hs
  all_goals have l0 := Nat.lt_of_lt_of_le l0 hsz
  all_goals have l1 := Nat.lt_of_lt_of_le l1 hsz
  all_goals have l2 := Nat.lt_of_lt_of_le l2 hsz
  all_goals have l3 := bz.lt
  all_goals have y3_0 : (wk1.alloc (.cells #[.int .i64 a.start, .slice C1 p1 e1, .slice D1 q1 f1] 29)).cell? ⟨wk1.heap.size, 0, none⟩ = some (.int .i64 a.start) := bz.cell 0
  all_goals have y3_1 : (wk1.alloc (.cells #[.int .i64 a.start, .slice C1 p1 e1, .slice D1 q1 f1] 29)).cell? ⟨wk1.heap.size, 1, none⟩ = some (.slice C1 p1 e1) := bz.cell 1
  all_goals have y3_2 : (wk1.alloc (.cells #[.int .i64 a.start, .slice C1 p1 e1, .slice D1 q1 f1] 29)).cell? ⟨wk1.heap.size, 2, none⟩ = some (.slice D1 q1 f1) := bz.cell 2
  all_goals have hw0 := hw0.keep hba
  all_goals have hw1 := hw1.keep hba
  all_goals clear bz hba hbk1 hok1 HS hsz
  all_goals go_wp2_with fail
  all_goals generalize wk1.alloc (.cells #[.int .i64 a.start, .slice C1 p1 e1, .slice D1 q1 f1] 29) = wl1 at hb y0_0 y0_1 y1_0 y1_1 y1_2 y2_0 y2_1 y3_0 y3_1 y3_2 l0 l1 l2 l3 hw0 hw1 ⊢
  all_goals have hs : Below w.heap.size w wl1 ∧ wl1.heap.size ≤ wl1.heap.size ∧ wl1.cell? ⟨w.heap.size, 0, none⟩ = some (.slice A0 n0 c0) ∧ wl1.cell? ⟨w.heap.size, 1, none⟩ = some (.slice B0 m0 d0) ∧ wl1.cell? ⟨w.heap.size + 1, 0, none⟩ = some (.int .i64 a.start) ∧ wl1.cell? ⟨w.heap.size + 1, 1, none⟩ = some (.slice A1 n1 c1) ∧ wl1.cell? ⟨w.heap.size + 1, 2, none⟩ = some (.slice B1 m1 d1) ∧ wl1.cell? ⟨wk0.heap.size, 0, none⟩ = some (.slice C0 p0 e0) ∧ wl1.cell? ⟨wk0.heap.size, 1, none⟩ = some (.slice D0 q0 f0) ∧ wl1.cell? ⟨wk1.heap.size, 0, none⟩ = some (.int .i64 a.start) ∧ wl1.cell? ⟨wk1.heap.size, 1, none⟩ = some (.slice C1 p1 e1) ∧ wl1.cell? ⟨wk1.heap.size, 2, none⟩ = some (.slice D1 q1 f1) := ⟨hb, Nat.le_refl _, y0_0, y0_1, y1_0, y1_1, y1_2, y2_0, y2_1, y3_0, y3_1, y3_2⟩
  all_goals have HS := Lib.hid hs
  all_goals clear hs
  all_goals (refine (implCountWalks _ _ g a x y n _ hw0 hw1).mono ?_; rintro e wres ⟨rfl, hbres⟩)
  all_goals have hs := hold10 l0 l0 l1 l1 l1 l2 l2 l3 l3 l3 hbres HS.out
  all_goals clear hb y0_0 y0_1 y1_0 y1_1 y1_2 y2_0 y2_1 y3_0 y3_1 y3_2 HS
  all_goals have HS := Lib.hid hs
  all_goals obtain ⟨hb, -, y0_0, y0_1, y1_0, y1_1, y1_2, y2_0, y2_1, y3_0, y3_1, y3_2⟩ := hs
  all_goals have hw0 := hw0.keep hbres
  all_goals have hw1 := hw1.keep hbres
  all_goals generalize cntWalks g a x y n = bb
  all_goals go_wp2_with fail
  all_goals have hsz := HS.out.2.1
  all_goals go_region_held3 (fun w' => Below w.heap.size w w' ∧ wl1.heap.size ≤ w'.heap.size ∧ w'.cell? ⟨w.heap.size, 0, none⟩ = some (.slice A0 n0 c0) ∧ w'.cell? ⟨w.heap.size, 1, none⟩ = some (.slice B0 m0 d0) ∧ w'.cell? ⟨w.heap.size + 1, 0, none⟩ = some (.int .i64 a.start) ∧ w'.cell? ⟨w.heap.size + 1, 1, none⟩ = some (.slice A1 n1 c1) ∧ w'.cell? ⟨w.heap.size + 1, 2, none⟩ = some (.slice B1 m1 d1) ∧ w'.cell? ⟨wk0.heap.size, 0, none⟩ = some (.slice C0 p0 e0) ∧ w'.cell? ⟨wk0.heap.size, 1, none⟩ = some (.slice D0 q0 f0) ∧ w'.cell? ⟨wk1.heap.size, 0, none⟩ = some (.int .i64 a.start) ∧ w'.cell? ⟨wk1.heap.size, 1, none⟩ = some (.slice C1 p1 e1) ∧ w'.cell? ⟨wk1.heap.size, 2, none⟩ = some (.slice D1 q1 f1))
    (first | (exact ⟨hb.drew, hsz, y0_0, y0_1, y1_0, y1_1, y1_2, y2_0, y2_1, y3_0, y3_1, y3_2⟩) | (exact hold10 l0 l0 l1 l1 l1 l2 l2 l3 l3 l3 (by assumption) (by assumption)))
    (first | (go_at_call 26; refine (toGraph_any _ g _ (hvo0.keep (hold_below (by assumption))) ha0 hc0).mono ?_; rintro e wd0 ⟨vd0, rfl, hod0, hbd0⟩) | (go_at_call 28; refine (eqGraph_same _ _ g _ (GrV.keep (w := wres.drew) hw0 hbd0) (hod0.view.all (Nat.le_refl _))).mono ?_; rintro e we0 ⟨rfl, hbe0⟩))
  all_goals clear hb y0_0 y0_1 y1_0 y1_1 y1_2 y2_0 y2_1 y3_0 y3_1 y3_2
  all_goals (rename_i hh; have HS := Lib.hid hh; obtain ⟨hb, -, y0_0, y0_1, y1_0, y1_1, y1_2, y2_0, y2_1, y3_0, y3_1, y3_2⟩ := hh)
  all_goals have hw0 := GrV.keep (GrV.keep (w := wres.drew) hw0 hbd0) hbe0
  all_goals have hw1 := AuV.keep (AuV.keep (w := wres.drew) hw1 hbd0) hbe0
  all_goals clear hsz
  all_goals go_wp2_with fail
  all_goals have hsz := HS.out.2.1
  all_goals go_region_held3 (fun w' => Below w.heap.size w w' ∧ wl1.heap.size ≤ w'.heap.size ∧ w'.cell? ⟨w.heap.size, 0, none⟩ = some (.slice A0 n0 c0) ∧ w'.cell? ⟨w.heap.size, 1, none⟩ = some (.slice B0 m0 d0) ∧ w'.cell? ⟨w.heap.size + 1, 0, none⟩ = some (.int .i64 a.start) ∧ w'.cell? ⟨w.heap.size + 1, 1, none⟩ = some (.slice A1 n1 c1) ∧ w'.cell? ⟨w.heap.size + 1, 2, none⟩ = some (.slice B1 m1 d1) ∧ w'.cell? ⟨wk0.heap.size, 0, none⟩ = some (.slice C0 p0 e0) ∧ w'.cell? ⟨wk0.heap.size, 1, none⟩ = some (.slice D0 q0 f0) ∧ w'.cell? ⟨wk1.heap.size, 0, none⟩ = some (.int .i64 a.start) ∧ w'.cell? ⟨wk1.heap.size, 1, none⟩ = some (.slice C1 p1 e1) ∧ w'.cell? ⟨wk1.heap.size, 2, none⟩ = some (.slice D1 q1 f1))
    (first | (exact ⟨hb.drew, hsz, y0_0, y0_1, y1_0, y1_1, y1_2, y2_0, y2_1, y3_0, y3_1, y3_2⟩) | (exact hold10 l0 l0 l1 l1 l1 l2 l2 l3 l3 l3 (by assumption) (by assumption)))
    (first | (go_at_call 15; refine (toAutomaton_any _ a _ (hvo1.keep (hold_below (by assumption))) ha1 hc1 HD1.out).mono ?_; rintro e wd1 ⟨vd1, rfl, hod1, hbd1⟩) | (go_at_call 18; refine (eqAutomaton_same _ _ a _ (AuV.keep (w := we0.drew) hw1 hbd1) (hod1.view.all (Nat.le_refl _))).mono ?_; rintro e we1 ⟨rfl, hbe1⟩))
  all_goals clear hb y0_0 y0_1 y1_0 y1_1 y1_2 y2_0 y2_1 y3_0 y3_1 y3_2
  all_goals (rename_i hh; have HS := Lib.hid hh; obtain ⟨hb, -, y0_0, y0_1, y1_0, y1_1, y1_2, y2_0, y2_1, y3_0, y3_1, y3_2⟩ := hh)
  all_goals have hw0 := GrV.keep (GrV.keep (w := we0.drew) hw0 hbd1) hbe1
  all_goals have hw1 := AuV.keep (AuV.keep (w := we0.drew) hw1 hbd1) hbe1
  all_goals clear hsz
  all_goals go_wp2_with fail
  all_goals go_ret
  all_goals exact ⟨rfl, hb⟩

end Go.Proofs.Ytgdgelkeflihpaa.fnExactCountWalks

namespace Go.Proofs.Ytgdgelkeflihpaa.fnExactCountWalks
set_option linter.unusedVariables false
set_option linter.unusedSimpArgs false
open Go.ChangeShapes Go.WideShapes Go.ChangeAt Go.RowKit
/-! ### The row -/
theorem own : ownKnob Try.prog.godebug = none := by kernel_rfl
theorem laidOut : laidOutB Try.prog = true := by kernel_rfl
set_option maxRecDepth 100000 in
theorem lifted (os : Os) (started : os.Started) (H : Type) (enc : TypeId × Value → H) :
    ReturnsInHanded {} Try.checked os 5 .any (Rows.fnExactCountWalksSpec.pre6 enc Try.prog Try.f5 Rows.fnExactCountWalksRow.domain false) (Rows.fnExactCountWalksSpec.post enc Try.prog Try.f5 false true false false) := by
  refine returnsInHanded_of_change (C := Try.checked) own started (by kernel_rfl) Try.func5
    (ChangeSpec.witness6 (enc := enc) (C := Try.checked) false ⟨#[], #[.agg #[.slice none 0 0, .slice none 0 0], .agg #[.int .i64 0, .slice none 0 0, .slice none 0 0], .int .i64 0, .int .i64 0, .int .i64 0], []⟩ 8 (by kernel_rfl) (by kernel_rfl) (by kernel_rfl) (by kernel_rfl)) ?_
  intro W base args ds gs before hval0 hW hcnd _
  have hval : ∀ (j : Nat) t v, Try.f5.params[j]? = some t → args[j]? = some v → Value.okWide Try.prog W .any base t v := hval0
  have hW' := hW
  obtain ⟨p, q, hA0, hV, rfl, hfz, hnd⟩ := hW
  have hA : DataW.TrodAll enc Try.prog W 0 (fun _ => true) true Try.f5.params.toList args.toList ds p := hA0
  rw [Try.params5] at hA hval
  obtain ⟨v0, vs0, d0, ds0, p0, q0, hargs, rfl, rfl, h0, r0⟩ := trodAll_cons hA
  obtain ⟨v1, vs1, d1, ds1, p1, q1, rfl, rfl, rfl, h1, r1⟩ := trodAll_cons r0
  obtain ⟨v2, vs2, d2, ds2, p2, q2, rfl, rfl, rfl, h2, r2⟩ := trodAll_cons r1
  obtain ⟨v3, vs3, d3, ds3, p3, q3, rfl, rfl, rfl, h3, r3⟩ := trodAll_cons r2
  obtain ⟨v4, vs4, d4, ds4, p4, q4, rfl, rfl, rfl, h4, r4⟩ := trodAll_cons r3
  obtain ⟨rfl, rfl, rfl⟩ := trodAll_nil r4
  obtain rfl : args = #[v0, v1, v2, v3, v4] := by cases args; simp_all
  obtain ⟨rfl, rfl⟩ := trodVars_none hV
  obtain ⟨a0, w0⟩ := openGraph (hval 0 40 v0 rfl rfl) h0
  obtain ⟨a1, w1⟩ := openAutomaton (hval 1 25 v1 rfl rfl) h1
  obtain ⟨a2, rfl, rfl, rfl, w2⟩ := open_int Try.underlying3 (hval 2 3 v2 rfl rfl) h2
  obtain ⟨a3, rfl, rfl, rfl, w3⟩ := open_int Try.underlying3 (hval 3 3 v3 rfl rfl) h3
  obtain ⟨a4, rfl, rfl, rfl, w4⟩ := open_int Try.underlying3 (hval 4 3 v4 rfl rfl) h4
  refine (walk W v0 a0 w0 v1 a1 w1 a2 w2 a3 w3 a4 w4).mono fun e W' ⟨he, hb⟩ => ?_
  subst he
  exact ⟨_, rfl, law_post laidOut (by kernel_rfl) rfl Try.underlying4 rfl rfl hW' hb⟩
theorem unf : Try.pinned.checked.prog.unfollowed 5 = false := by kernel_rfl
theorem inpl : Try.pinned.checked.prog.inPlace 5 = [] := by kernel_rfl
theorem vnam : Try.pinned.checked.prog.varsNamed 5 = [] := by kernel_rfl
theorem rec_ : Try.pinned.checked.prog.recurses 5 = true := recurses_yes 79 79 (by kernel_rfl) (by kernel_rfl) (by kernel_rfl)
theorem over : Rows.fnExactCountWalksRow.holds Try.pinned (OpenSpec.ofChange Rows.fnExactCountWalksSpec) :=
  OpenClaim.holds_of_wide 5 Try.f5 rfl rfl rfl rfl rfl rfl rfl ⟨rfl, rfl, rfl, rfl, rfl⟩ rfl rfl rfl rfl rfl (by kernel_rfl) Try.func5 (by unfold joinedFacts; rw [seat_mayEnter, seat_lifts, seat_laidOut, seat_mapsRowed, unf, rec_, inpl, vnam]; kernel_rfl)
    (of_decide_eq_true (by kernel_rfl)) (by unfold Func.isWrapper; first | (rw [if_pos (by decide +kernel)]; kernel_rfl) | (rw [if_neg (by decide +kernel)]; exact ⟨rfl, rfl⟩))
    (fun os started H enc _ => lifted os started H enc)
theorem proved : Rows.FnExactCountWalksSaid := over
end Go.Proofs.Ytgdgelkeflihpaa.fnExactCountWalks

