/- 'laws.FnExactWalkAllowed' returns true for all arguments, without any condition: the program's WalkAllowed equals the reference's and leaves its arguments alone. -/
import Derived.Test.YtbhmgpclakkgbaaFrame
import Derived.Test.YtbhmgpclakkgbaaOpen
import Derived.Test.YtbhmgpclakkgbaaHold
import Derived.Test.YtbhmgpclakkgbaaHelpGraph
import Derived.Test.YtbhmgpclakkgbaaHelpWalk
import Derived.Test.YtbhmgpclakkgbaaWalkI
import Derived.Test.YtbhmgpclakkgbaaWalkS
import Derived.Deep.RegionHeld3
namespace Go.Proofs.Ytbhmgpclakkgbaa.fnExactWalkAllowed
set_option linter.unusedVariables false
set_option linter.unusedSimpArgs false
open Go.ChangeShapes Go.WideShapes Go.ChangeAt Go.RowKit
attribute [local go_sem] ext_cell ext_frozen ext_lt ext_lt1 ext_lt2 ext_lt3 ltn2 ltn3 ltn13 lts1 lts2 lts3

set_option maxRecDepth 100000 in
set_option maxHeartbeats 4000000 in
theorem walk (w : World) (v0 : Value) (g : Gr) (hv0 : GrV 0 w.heap.size w v0 g) (c : Int) (wf1 : (Lit.int .i64 c).wf = true) (v2 : Value) (k : Wk) (hv2 : WkV 0 w.heap.size w v2 k) :
    Calls Try.prog 6 #[v0, .int .i64 c, v2] w fun e w' => e = .returned (.bool true) ∧ Below w.heap.size w w' := by
  have hvo0 := hv0
  obtain ⟨A0, n0, c0, B0, m0, d0, rfl⟩ := hv0.shape
  clear hv0
  clear wf1
  have hvo2 := hv2
  obtain ⟨A2, n2, c2, rfl⟩ := hv2.shape
  clear hv2
  have hb0 : Below w.heap.size w ((w.alloc (.cells #[.slice A0 n0 c0, .slice B0 m0 d0] 37)).alloc (.cells #[.int .i64 k.1, .slice A2 n2 c2] 52)) := ((Below.refl _ _).alloc (Nat.le_refl _) _).alloc (by simp <;> omega) _
  go_enter Try.func6, Try.ntmps6
  go_wp2_with fail
  refine (szGraph_any _ g 1048576 _ (hvo0.keep hb0) (by omega) (by omega)).mono ?_
  rintro e ws0 ⟨rfl, hbws0⟩
  have bl0 := ((Blk.new w _ _ w.heap.size rfl).alloc _).keep hbws0
  have l0 := bl0.lt
  have y0_0 : ws0.cell? ⟨w.heap.size, 0, none⟩ = some (.slice A0 n0 c0) := bl0.cell 0
  have y0_1 : ws0.cell? ⟨w.heap.size, 1, none⟩ = some (.slice B0 m0 d0) := bl0.cell 1
  have bl1 := (Blk.new (w.alloc _) _ _ (w.heap.size + 1) (by simp)).keep hbws0
  have l1 := bl1.lt
  have y1_0 : ws0.cell? ⟨w.heap.size + 1, 0, none⟩ = some (.int .i64 k.1) := bl1.cell 0
  have y1_1 : ws0.cell? ⟨w.heap.size + 1, 1, none⟩ = some (.slice A2 n2 c2) := bl1.cell 1
  have hb := below_trans hb0 hbws0
  have hs : Below w.heap.size w ws0 ∧ ws0.heap.size ≤ ws0.heap.size ∧ ws0.cell? ⟨w.heap.size, 0, none⟩ = some (.slice A0 n0 c0) ∧ ws0.cell? ⟨w.heap.size, 1, none⟩ = some (.slice B0 m0 d0) ∧ ws0.cell? ⟨w.heap.size + 1, 0, none⟩ = some (.int .i64 k.1) ∧ ws0.cell? ⟨w.heap.size + 1, 1, none⟩ = some (.slice A2 n2 c2) := ⟨hb, Nat.le_refl _, y0_0, y0_1, y1_0, y1_1⟩
  clear bl0 bl1 hb0 hbws0
  have HS := Lib.hid hs
  clear hs
  by_cases hz : (szGr g 1048576) < 0
  · have hzd : decide ((szGr g 1048576) < 0) = true := by simpa using hz
    clear hz
    go_wp2_with fail
    go_ret
    exact ⟨rfl, hb⟩
  have hzd : decide ((szGr g 1048576) < 0) = false := by simpa using hz
  obtain ⟨ha0, hc0, hz0, hzm⟩ := szGr_le g 1048576 hz
  have ha0 : g.vals.length ≤ 1048576 := by omega
  have hc0 : g.edges.length ≤ 1048576 := by omega
  generalize (szGr g 1048576) = z0 at hzd hz0 hzm ⊢
  clear hz
  have hzm0 : z0 ≤ 1048576 := by omega
  have hz00 := hz0
  clear hz0 hzm
  go_wp2_with fail
  clear hzd
  refine (szWalkD_any _ k z0 _ (hvo2.keep hb) (by omega) (by omega)).mono ?_
  rintro e ws1 ⟨rfl, hbws1⟩
  have hs := hold4 l0 l0 l1 l1 hbws1 HS.out
  clear hb y0_0 y0_1 y1_0 y1_1 HS
  have HS := Lib.hid hs
  obtain ⟨hb, -, y0_0, y0_1, y1_0, y1_1⟩ := hs
  by_cases hz : (szWk k z0) < 0
  · have hzd : decide ((szWk k z0) < 0) = true := by simpa using hz
    clear hz
    go_wp2_with fail
    go_ret
    exact ⟨rfl, hb⟩
  have hzd : decide ((szWk k z0) < 0) = false := by simpa using hz
  obtain ⟨ha2, hz0, hzm⟩ := szWk_le k z0 hz
  have ha2 : k.2.length ≤ 1048576 := by omega
  generalize (szWk k z0) = z1 at hzd hz0 hzm ⊢
  clear hz
  skip
  have hzm1 : z1 ≤ 1048576 := by omega
  have hz01 := hz0
  clear hz0 hzm
  go_wp2_with fail
  clear hzd
  have hsz := HS.out.2.1
  go_region_held3 (fun w' => Below w.heap.size w w' ∧ ws0.heap.size ≤ w'.heap.size ∧ w'.cell? ⟨w.heap.size, 0, none⟩ = some (.slice A0 n0 c0) ∧ w'.cell? ⟨w.heap.size, 1, none⟩ = some (.slice B0 m0 d0) ∧ w'.cell? ⟨w.heap.size + 1, 0, none⟩ = some (.int .i64 k.1) ∧ w'.cell? ⟨w.heap.size + 1, 1, none⟩ = some (.slice A2 n2 c2))
    (first | (exact ⟨hb.drew, hsz, y0_0, y0_1, y1_0, y1_1⟩) | (exact hold4 l0 l0 l1 l1 (by assumption) (by assumption)))
    (first | (go_at_call 24; refine (toGraph_any _ g _ (hvo0.keep (hold_below (by assumption))) ha0 hc0).mono ?_; rintro e wc0 ⟨vc0, rfl, hoc0, hbc0⟩) | (go_at_call 30; refine (toWalk_any _ k _ (hvo2.keep (hold_below (by assumption))) ha2).mono ?_; rintro e wc2 ⟨vc2, rfl, hoc2, hbc2⟩) | (go_at_call 29; refine (specWalkAllowed vc0 vc2 g c k _ (by first | exact (hoc0.view.all (Nat.le_refl _)) | exact ((hoc0.view.all (Nat.le_refl _)).keep hbc2)) (by first | exact (hoc2.view.all (Nat.le_refl _)) | exact ((hoc2.view.all (Nat.le_refl _)).keep hbc0))).mono ?_; rintro e wres ⟨rfl, hbres⟩))
  all_goals clear hb y0_0 y0_1 y1_0 y1_1
  all_goals (rename_i hh; have HS := Lib.hid hh; obtain ⟨hb, -, y0_0, y0_1, y1_0, y1_1⟩ := hh)
  all_goals clear hsz
  all_goals go_wp2_with fail
  all_goals (refine (toGraph_any _ g _ (hvo0.keep hb) ha0 hc0).mono ?_; rintro e wk0 ⟨vk0, rfl, hok0, hbk0⟩)
  all_goals have hw0 := hok0.view.all (Nat.le_refl _)
  all_goals obtain ⟨C0, p0, e0, D0, q0, f0, rfl⟩ := hw0.shape
  all_goals have hba : Below wk0.heap.size wk0 (wk0.alloc (.cells #[.slice C0 p0 e0, .slice D0 q0 f0] 44)) := (Below.refl _ _).alloc (Nat.le_refl _) _
  all_goals have hs := hold4 l0 l0 l1 l1 (below_trans hbk0 hba) HS.out
  all_goals have bz := Blk.new wk0 44 #[.slice C0 p0 e0, .slice D0 q0 f0] wk0.heap.size rfl
  all_goals clear hb y0_0 y0_1 y1_0 y1_1
  all_goals obtain ⟨hb, hsz, y0_0, y0_1, y1_0, y1_1⟩ := hs
  all_goals have l0 := Nat.lt_of_lt_of_le l0 hsz
  all_goals have l1 := Nat.lt_of_lt_of_le l1 hsz
  all_goals have l2 := bz.lt
  all_goals have y2_0 : (wk0.alloc (.cells #[.slice C0 p0 e0, .slice D0 q0 f0] 44)).cell? ⟨wk0.heap.size, 0, none⟩ = some (.slice C0 p0 e0) := bz.cell 0
  all_goals have y2_1 : (wk0.alloc (.cells #[.slice C0 p0 e0, .slice D0 q0 f0] 44)).cell? ⟨wk0.heap.size, 1, none⟩ = some (.slice D0 q0 f0) := bz.cell 1
  all_goals have hw0 := hw0.keep hba
  all_goals clear bz hba hbk0 hok0 HS hsz
  all_goals go_wp2_with fail
  all_goals generalize wk0.alloc (.cells #[.slice C0 p0 e0, .slice D0 q0 f0] 44) = wl0 at hb y0_0 y0_1 y1_0 y1_1 y2_0 y2_1 l0 l1 l2 hw0 ⊢
  all_goals have hs : Below w.heap.size w wl0 ∧ wl0.heap.size ≤ wl0.heap.size ∧ wl0.cell? ⟨w.heap.size, 0, none⟩ = some (.slice A0 n0 c0) ∧ wl0.cell? ⟨w.heap.size, 1, none⟩ = some (.slice B0 m0 d0) ∧ wl0.cell? ⟨w.heap.size + 1, 0, none⟩ = some (.int .i64 k.1) ∧ wl0.cell? ⟨w.heap.size + 1, 1, none⟩ = some (.slice A2 n2 c2) ∧ wl0.cell? ⟨wk0.heap.size, 0, none⟩ = some (.slice C0 p0 e0) ∧ wl0.cell? ⟨wk0.heap.size, 1, none⟩ = some (.slice D0 q0 f0) := ⟨hb, Nat.le_refl _, y0_0, y0_1, y1_0, y1_1, y2_0, y2_1⟩
  all_goals have HS := Lib.hid hs
  all_goals clear hs
  all_goals (refine (toWalk_any _ k _ (hvo2.keep hb) ha2).mono ?_; rintro e wk2 ⟨vk2, rfl, hok2, hbk2⟩)
  all_goals have hw2 := hok2.view.all (Nat.le_refl _)
  all_goals have hw0 := hw0.keep hbk2
  all_goals obtain ⟨C2, p2, e2, rfl⟩ := hw2.shape
  all_goals have hba : Below wk2.heap.size wk2 (wk2.alloc (.cells #[.int .i64 k.1, .slice C2 p2 e2] 57)) := (Below.refl _ _).alloc (Nat.le_refl _) _
  all_goals have hs := hold6 l0 l0 l1 l1 l2 l2 (below_trans hbk2 hba) HS.out
  all_goals have bz := Blk.new wk2 57 #[.int .i64 k.1, .slice C2 p2 e2] wk2.heap.size rfl
  all_goals clear hb y0_0 y0_1 y1_0 y1_1 y2_0 y2_1
  all_goals obtain ⟨hb, hsz, y0_0, y0_1, y1_0, y1_1, y2_0, y2_1⟩ := hs
  all_goals have l0 := Nat.lt_of_lt_of_le l0 hsz
  all_goals have l1 := Nat.lt_of_lt_of_le l1 hsz
  all_goals have l2 := Nat.lt_of_lt_of_le l2 hsz
  all_goals have l3 := bz.lt
  all_goals have y3_0 : (wk2.alloc (.cells #[.int .i64 k.1, .slice C2 p2 e2] 57)).cell? ⟨wk2.heap.size, 0, none⟩ = some (.int .i64 k.1) := bz.cell 0
  all_goals have y3_1 : (wk2.alloc (.cells #[.int .i64 k.1, .slice C2 p2 e2] 57)).cell? ⟨wk2.heap.size, 1, none⟩ = some (.slice C2 p2 e2) := bz.cell 1
  all_goals have hw0 := hw0.keep hba
  all_goals have hw2 := hw2.keep hba
  all_goals clear bz hba hbk2 hok2 HS hsz
  all_goals go_wp2_with fail
  all_goals generalize wk2.alloc (.cells #[.int .i64 k.1, .slice C2 p2 e2] 57) = wl2 at hb y0_0 y0_1 y1_0 y1_1 y2_0 y2_1 y3_0 y3_1 l0 l1 l2 l3 hw0 hw2 ⊢
  all_goals have hs : Below w.heap.size w wl2 ∧ wl2.heap.size ≤ wl2.heap.size ∧ wl2.cell? ⟨w.heap.size, 0, none⟩ = some (.slice A0 n0 c0) ∧ wl2.cell? ⟨w.heap.size, 1, none⟩ = some (.slice B0 m0 d0) ∧ wl2.cell? ⟨w.heap.size + 1, 0, none⟩ = some (.int .i64 k.1) ∧ wl2.cell? ⟨w.heap.size + 1, 1, none⟩ = some (.slice A2 n2 c2) ∧ wl2.cell? ⟨wk0.heap.size, 0, none⟩ = some (.slice C0 p0 e0) ∧ wl2.cell? ⟨wk0.heap.size, 1, none⟩ = some (.slice D0 q0 f0) ∧ wl2.cell? ⟨wk2.heap.size, 0, none⟩ = some (.int .i64 k.1) ∧ wl2.cell? ⟨wk2.heap.size, 1, none⟩ = some (.slice C2 p2 e2) := ⟨hb, Nat.le_refl _, y0_0, y0_1, y1_0, y1_1, y2_0, y2_1, y3_0, y3_1⟩
  all_goals have HS := Lib.hid hs
  all_goals clear hs
  all_goals (refine (implWalkAllowed _ _ g c k _ hw0 hw2).mono ?_; rintro e wres ⟨rfl, hbres⟩)
  all_goals have hs := hold8 l0 l0 l1 l1 l2 l2 l3 l3 hbres HS.out
  all_goals clear hb y0_0 y0_1 y1_0 y1_1 y2_0 y2_1 y3_0 y3_1 HS
  all_goals have HS := Lib.hid hs
  all_goals obtain ⟨hb, -, y0_0, y0_1, y1_0, y1_1, y2_0, y2_1, y3_0, y3_1⟩ := hs
  all_goals have hw0 := hw0.keep hbres
  all_goals have hw2 := hw2.keep hbres
  all_goals generalize walkAllowed g c k = bb
  all_goals go_wp2_with fail
  all_goals have hsz := HS.out.2.1
  all_goals go_region_held3 (fun w' => Below w.heap.size w w' ∧ wl2.heap.size ≤ w'.heap.size ∧ w'.cell? ⟨w.heap.size, 0, none⟩ = some (.slice A0 n0 c0) ∧ w'.cell? ⟨w.heap.size, 1, none⟩ = some (.slice B0 m0 d0) ∧ w'.cell? ⟨w.heap.size + 1, 0, none⟩ = some (.int .i64 k.1) ∧ w'.cell? ⟨w.heap.size + 1, 1, none⟩ = some (.slice A2 n2 c2) ∧ w'.cell? ⟨wk0.heap.size, 0, none⟩ = some (.slice C0 p0 e0) ∧ w'.cell? ⟨wk0.heap.size, 1, none⟩ = some (.slice D0 q0 f0) ∧ w'.cell? ⟨wk2.heap.size, 0, none⟩ = some (.int .i64 k.1) ∧ w'.cell? ⟨wk2.heap.size, 1, none⟩ = some (.slice C2 p2 e2))
    (first | (exact ⟨hb.drew, hsz, y0_0, y0_1, y1_0, y1_1, y2_0, y2_1, y3_0, y3_1⟩) | (exact hold8 l0 l0 l1 l1 l2 l2 l3 l3 (by assumption) (by assumption)))
    (first | (go_at_call 24; refine (toGraph_any _ g _ (hvo0.keep (hold_below (by assumption))) ha0 hc0).mono ?_; rintro e wd0 ⟨vd0, rfl, hod0, hbd0⟩) | (go_at_call 27; refine (eqGraph_same _ _ g _ (GrV.keep (w := wres.drew) hw0 hbd0) (hod0.view.all (Nat.le_refl _))).mono ?_; rintro e we0 ⟨rfl, hbe0⟩))
  all_goals clear hb y0_0 y0_1 y1_0 y1_1 y2_0 y2_1 y3_0 y3_1
  all_goals (rename_i hh; have HS := Lib.hid hh; obtain ⟨hb, -, y0_0, y0_1, y1_0, y1_1, y2_0, y2_1, y3_0, y3_1⟩ := hh)
  all_goals have hw0 := GrV.keep (GrV.keep (w := wres.drew) hw0 hbd0) hbe0
  all_goals have hw2 := WkV.keep (WkV.keep (w := wres.drew) hw2 hbd0) hbe0
  all_goals clear hsz
  all_goals go_wp2_with fail
  all_goals have hsz := HS.out.2.1
  all_goals go_region_held3 (fun w' => Below w.heap.size w w' ∧ wl2.heap.size ≤ w'.heap.size ∧ w'.cell? ⟨w.heap.size, 0, none⟩ = some (.slice A0 n0 c0) ∧ w'.cell? ⟨w.heap.size, 1, none⟩ = some (.slice B0 m0 d0) ∧ w'.cell? ⟨w.heap.size + 1, 0, none⟩ = some (.int .i64 k.1) ∧ w'.cell? ⟨w.heap.size + 1, 1, none⟩ = some (.slice A2 n2 c2) ∧ w'.cell? ⟨wk0.heap.size, 0, none⟩ = some (.slice C0 p0 e0) ∧ w'.cell? ⟨wk0.heap.size, 1, none⟩ = some (.slice D0 q0 f0) ∧ w'.cell? ⟨wk2.heap.size, 0, none⟩ = some (.int .i64 k.1) ∧ w'.cell? ⟨wk2.heap.size, 1, none⟩ = some (.slice C2 p2 e2))
    (first | (exact ⟨hb.drew, hsz, y0_0, y0_1, y1_0, y1_1, y2_0, y2_1, y3_0, y3_1⟩) | (exact hold8 l0 l0 l1 l1 l2 l2 l3 l3 (by assumption) (by assumption)))
    (first | (go_at_call 30; refine (toWalk_any _ k _ (hvo2.keep (hold_below (by assumption))) ha2).mono ?_; rintro e wd2 ⟨vd2, rfl, hod2, hbd2⟩) | (go_at_call 32; refine (eqWalk_same _ _ k _ (WkV.keep (w := we0.drew) hw2 hbd2) (hod2.view.all (Nat.le_refl _))).mono ?_; rintro e we2 ⟨rfl, hbe2⟩))
  all_goals clear hb y0_0 y0_1 y1_0 y1_1 y2_0 y2_1 y3_0 y3_1
  all_goals (rename_i hh; have HS := Lib.hid hh; obtain ⟨hb, -, y0_0, y0_1, y1_0, y1_1, y2_0, y2_1, y3_0, y3_1⟩ := hh)
  all_goals have hw0 := GrV.keep (GrV.keep (w := we0.drew) hw0 hbd2) hbe2
  all_goals have hw2 := WkV.keep (WkV.keep (w := we0.drew) hw2 hbd2) hbe2
  all_goals clear hsz
  all_goals go_wp2_with fail
  all_goals go_ret
  all_goals exact ⟨rfl, hb⟩

end Go.Proofs.Ytbhmgpclakkgbaa.fnExactWalkAllowed
