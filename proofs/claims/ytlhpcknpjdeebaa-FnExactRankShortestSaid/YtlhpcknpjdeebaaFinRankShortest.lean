/- 'laws.FnExactRankShortest' returns true for all arguments, without any condition: the program's RankShortest equals the reference's and leaves its arguments alone. -/
import Derived.Test.YtlhpcknpjdeebaaPartLOMEEABO
import Derived.Test.YtlhpcknpjdeebaaPartJMJACPBF
import Derived.Test.YtlhpcknpjdeebaaPartHCBNMMEI
import Derived.Test.YtlhpcknpjdeebaaPartIHPPKPPN
import Derived.Deep.RegionHeld3
import Derived.Test.YtlhpcknpjdeebaaPartINLHGKFA
namespace Go.Proofs.Ytlhpcknpjdeebaa.fnExactRankShortest
set_option linter.unusedVariables false
set_option linter.unusedSimpArgs false
open Go.ChangeShapes Go.WideShapes Go.ChangeAt Go.RowKit
attribute [local go_sem] ext_cell ext_frozen ext_lt ext_lt1 ext_lt2 ext_lt3 ltn2 ltn3 ltn13 lts1 lts2 lts3

set_option maxRecDepth 100000 in
set_option maxHeartbeats 4000000 in
theorem walk (w : World) (v0 : Value) (g : Gr) (hv0 : GrV 0 w.heap.size w v0 g) (v1 : Value) (a : Au) (hv1 : AuV 0 w.heap.size w v1 a) (x : Int) (wf2 : (Lit.int .i64 x).wf = true) (y : Int) (wf3 : (Lit.int .i64 y).wf = true) (v4 : Value) (k : Wk) (hv4 : WkV 0 w.heap.size w v4 k) :
    Calls Try.prog 4 #[v0, v1, .int .i64 x, .int .i64 y, v4] w fun e w' => e = .returned (.bool true) ∧ Below w.heap.size w w' := by
  have hvo0 := hv0
  obtain ⟨A0, n0, c0, B0, m0, d0, rfl⟩ := hv0.shape
  clear hv0
  have hvo1 := hv1
  obtain ⟨A1, n1, c1, B1, m1, d1, rfl⟩ := hv1.shape
  clear hv1
  clear wf2
  clear wf3
  have hvo4 := hv4
  obtain ⟨A4, n4, c4, rfl⟩ := hv4.shape
  clear hv4
  have hb0 : Below w.heap.size w (((w.alloc (.cells #[.slice A0 n0 c0, .slice B0 m0 d0] 25)).alloc (.cells #[.int .i64 a.start, .slice A1 n1 c1, .slice B1 m1 d1] 29)).alloc (.cells #[.int .i64 k.1, .slice A4 n4 c4] 52)) := (((Below.refl _ _).alloc (Nat.le_refl _) _).alloc (by simp <;> omega) _).alloc (by simp <;> omega) _
  go_enter Try.func4, Try.ntmps4
  go_wp2_with fail
  refine (szGraph_any _ g 1048576 _ (hvo0.keep hb0) (by omega) (by omega)).mono ?_
  rintro e ws0 ⟨rfl, hbws0⟩
  have bl0 := (((Blk.new w _ _ w.heap.size rfl).alloc _).alloc _).keep hbws0
  have l0 := bl0.lt
  have y0_0 : ws0.cell? ⟨w.heap.size, 0, none⟩ = some (.slice A0 n0 c0) := bl0.cell 0
  have y0_1 : ws0.cell? ⟨w.heap.size, 1, none⟩ = some (.slice B0 m0 d0) := bl0.cell 1
  have bl1 := ((Blk.new (w.alloc _) _ _ (w.heap.size + 1) (by simp)).alloc _).keep hbws0
  have l1 := bl1.lt
  have y1_0 : ws0.cell? ⟨w.heap.size + 1, 0, none⟩ = some (.int .i64 a.start) := bl1.cell 0
  have y1_1 : ws0.cell? ⟨w.heap.size + 1, 1, none⟩ = some (.slice A1 n1 c1) := bl1.cell 1
  have y1_2 : ws0.cell? ⟨w.heap.size + 1, 2, none⟩ = some (.slice B1 m1 d1) := bl1.cell 2
  have bl2 := (Blk.new ((w.alloc _).alloc _) _ _ (w.heap.size + 1 + 1) (by simp)).keep hbws0
  have l2 := bl2.lt
  have y2_0 : ws0.cell? ⟨w.heap.size + 1 + 1, 0, none⟩ = some (.int .i64 k.1) := bl2.cell 0
  have y2_1 : ws0.cell? ⟨w.heap.size + 1 + 1, 1, none⟩ = some (.slice A4 n4 c4) := bl2.cell 1
  have hb := below_trans hb0 hbws0
  have hs : Below w.heap.size w ws0 ∧ ws0.heap.size ≤ ws0.heap.size ∧ ws0.cell? ⟨w.heap.size, 0, none⟩ = some (.slice A0 n0 c0) ∧ ws0.cell? ⟨w.heap.size, 1, none⟩ = some (.slice B0 m0 d0) ∧ ws0.cell? ⟨w.heap.size + 1, 0, none⟩ = some (.int .i64 a.start) ∧ ws0.cell? ⟨w.heap.size + 1, 1, none⟩ = some (.slice A1 n1 c1) ∧ ws0.cell? ⟨w.heap.size + 1, 2, none⟩ = some (.slice B1 m1 d1) ∧ ws0.cell? ⟨w.heap.size + 1 + 1, 0, none⟩ = some (.int .i64 k.1) ∧ ws0.cell? ⟨w.heap.size + 1 + 1, 1, none⟩ = some (.slice A4 n4 c4) := ⟨hb, Nat.le_refl _, y0_0, y0_1, y1_0, y1_1, y1_2, y2_0, y2_1⟩
  clear bl0 bl1 bl2 hb0 hbws0
  have HS := Lib.hid hs
  clear hs
  by_cases hz : (szGr g 1048576) < 0
  · have hzd : decide ((szGr g 1048576) < 0) = true := by simpa using hz
    clear hz
    go_wp2_with fail
    go_ret
    exact ⟨rfl, hb⟩
  have hzd : decide ((szGr g 1048576) < 0) = false := by simpa using hz
  obtain ⟨ha0, hc0, hz0, hzm⟩ := szGr_le g 1048576 hz
  have ha0 : g.vals.length ≤ 1048576 := by omega
  have hc0 : g.edges.length ≤ 1048576 := by omega
  generalize (szGr g 1048576) = z0 at hzd hz0 hzm ⊢
  clear hz
  have hzm0 : z0 ≤ 1048576 := by omega
  have hz00 := hz0
  clear hz0 hzm
  go_wp2_with fail
  clear hzd
  refine (szAutomatonD_any _ a z0 _ (hvo1.keep hb) (by omega) (by omega)).mono ?_
  rintro e ws1 ⟨rfl, hbws1⟩
  have hs := hold7 l0 l0 l1 l1 l1 l2 l2 hbws1 HS.out
  clear hb y0_0 y0_1 y1_0 y1_1 y1_2 y2_0 y2_1 HS
  have HS := Lib.hid hs
  obtain ⟨hb, -, y0_0, y0_1, y1_0, y1_1, y1_2, y2_0, y2_1⟩ := hs
  by_cases hz : (szAuD a z0) < 0
  · have hzd : decide ((szAuD a z0) < 0) = true := by simpa using hz
    clear hz
    go_wp2_with fail
    go_ret
    exact ⟨rfl, hb⟩
  have hzd : decide ((szAuD a z0) < 0) = false := by simpa using hz
  obtain ⟨ha1, hc1, hd1, hz0, hzm⟩ := szAuD_le a z0 (by omega) hz
  have HD1 := Lib.hid hd1
  clear hd1
  generalize (szAuD a z0) = z1 at hzd hz0 hzm ⊢
  clear hz
  skip
  have hzm1 : z1 ≤ 1048576 := by omega
  have hz01 := hz0
  clear hz0 hzm
  go_wp2_with fail
  clear hzd
  refine (szWalkD_any _ k z1 _ (hvo4.keep hb) (by omega) (by omega)).mono ?_
  rintro e ws2 ⟨rfl, hbws2⟩
  have hs := hold7 l0 l0 l1 l1 l1 l2 l2 hbws2 HS.out
  clear hb y0_0 y0_1 y1_0 y1_1 y1_2 y2_0 y2_1 HS
  have HS := Lib.hid hs
  obtain ⟨hb, -, y0_0, y0_1, y1_0, y1_1, y1_2, y2_0, y2_1⟩ := hs
  by_cases hz : (szWk k z1) < 0
  · have hzd : decide ((szWk k z1) < 0) = true := by simpa using hz
    clear hz
    go_wp2_with fail
    go_ret
    exact ⟨rfl, hb⟩
  have hzd : decide ((szWk k z1) < 0) = false := by simpa using hz
  obtain ⟨ha4, hz0, hzm⟩ := szWk_le k z1 hz
  have ha4 : k.2.length ≤ 1048576 := by omega
  generalize (szWk k z1) = z2 at hzd hz0 hzm ⊢
  clear hz
  skip
  have hzm2 : z2 ≤ 1048576 := by omega
  have hz02 := hz0
  clear hz0 hzm
  go_wp2_with fail
  clear hzd
  have hsz := HS.out.2.1
  go_region_held3 (fun w' => Below w.heap.size w w' ∧ ws0.heap.size ≤ w'.heap.size ∧ w'.cell? ⟨w.heap.size, 0, none⟩ = some (.slice A0 n0 c0) ∧ w'.cell? ⟨w.heap.size, 1, none⟩ = some (.slice B0 m0 d0) ∧ w'.cell? ⟨w.heap.size + 1, 0, none⟩ = some (.int .i64 a.start) ∧ w'.cell? ⟨w.heap.size + 1, 1, none⟩ = some (.slice A1 n1 c1) ∧ w'.cell? ⟨w.heap.size + 1, 2, none⟩ = some (.slice B1 m1 d1) ∧ w'.cell? ⟨w.heap.size + 1 + 1, 0, none⟩ = some (.int .i64 k.1) ∧ w'.cell? ⟨w.heap.size + 1 + 1, 1, none⟩ = some (.slice A4 n4 c4))
    (first | (exact ⟨hb.drew, hsz, y0_0, y0_1, y1_0, y1_1, y1_2, y2_0, y2_1⟩) | (exact hold7 l0 l0 l1 l1 l1 l2 l2 (by assumption) (by assumption)))
    (first | (go_at_call 10; refine (toGraph_any _ g _ (hvo0.keep (hold_below (by assumption))) ha0 hc0).mono ?_; rintro e wc0 ⟨vc0, rfl, hoc0, hbc0⟩) | (go_at_call 11; refine (toAutomaton_any _ a _ (hvo1.keep (hold_below (by assumption))) ha1 hc1 HD1.out).mono ?_; rintro e wc1 ⟨vc1, rfl, hoc1, hbc1⟩) | (go_at_call 22; refine (toWalk_any _ k _ (hvo4.keep (hold_below (by assumption))) ha4).mono ?_; rintro e wc4 ⟨vc4, rfl, hoc4, hbc4⟩) | (go_at_call 21; refine (specRankShortest vc0 vc1 vc4 g a x y k _ (by first | exact (hoc0.view.all (Nat.le_refl _)) | exact ((hoc0.view.all (Nat.le_refl _)).keep hbc1) | exact ((hoc0.view.all (Nat.le_refl _)).keep hbc4) | exact (((hoc0.view.all (Nat.le_refl _)).keep hbc1).keep hbc4) | exact (((hoc0.view.all (Nat.le_refl _)).keep hbc4).keep hbc1)) (by first | exact (hoc1.view.all (Nat.le_refl _)) | exact ((hoc1.view.all (Nat.le_refl _)).keep hbc0) | exact ((hoc1.view.all (Nat.le_refl _)).keep hbc4) | exact (((hoc1.view.all (Nat.le_refl _)).keep hbc0).keep hbc4) | exact (((hoc1.view.all (Nat.le_refl _)).keep hbc4).keep hbc0)) (by first | exact (hoc4.view.all (Nat.le_refl _)) | exact ((hoc4.view.all (Nat.le_refl _)).keep hbc0) | exact ((hoc4.view.all (Nat.le_refl _)).keep hbc1) | exact (((hoc4.view.all (Nat.le_refl _)).keep hbc0).keep hbc1) | exact (((hoc4.view.all (Nat.le_refl _)).keep hbc1).keep hbc0))).mono ?_; rintro e wres ⟨rfl, hbres⟩))
  all_goals clear hb y0_0 y0_1 y1_0 y1_1 y1_2 y2_0 y2_1
  all_goals (rename_i hh; have HS := Lib.hid hh; obtain ⟨hb, -, y0_0, y0_1, y1_0, y1_1, y1_2, y2_0, y2_1⟩ := hh)
  all_goals clear hsz
  all_goals go_wp2_with fail
  all_goals (refine (toGraph_any _ g _ (hvo0.keep hb) ha0 hc0).mono ?_; rintro e wk0 ⟨vk0, rfl, hok0, hbk0⟩)
  all_goals have hw0 := hok0.view.all (Nat.le_refl _)
  all_goals obtain ⟨C0, p0, e0, D0, q0, f0, rfl⟩ := hw0.shape
  all_goals have hba : Below wk0.heap.size wk0 (wk0.alloc (.cells #[.slice C0 p0 e0, .slice D0 q0 f0] 39)) := (Below.refl _ _).alloc (Nat.le_refl _) _
  all_goals have hs := hold7 l0 l0 l1 l1 l1 l2 l2 (below_trans hbk0 hba) HS.out
  all_goals have bz := Blk.new wk0 39 #[.slice C0 p0 e0, .slice D0 q0 f0] wk0.heap.size rfl
  all_goals clear hb y0_0 y0_1 y1_0 y1_1 y1_2 y2_0 y2_1
  all_goals obtain ⟨hb, hsz, y0_0, y0_1, y1_0, y1_1, y1_2, y2_0, y2_1⟩ := hs
  all_goals have l0 := Nat.lt_of_lt_of_le l0 hsz
  all_goals have l1 := Nat.lt_of_lt_of_le l1 hsz
  all_goals have l2 := Nat.lt_of_lt_of_le l2 hsz
  all_goals have l3 := bz.lt
  all_goals have y3_0 : (wk0.alloc (.cells #[.slice C0 p0 e0, .slice D0 q0 f0] 39)).cell? ⟨wk0.heap.size, 0, none⟩ = some (.slice C0 p0 e0) := bz.cell 0
  all_goals have y3_1 : (wk0.alloc (.cells #[.slice C0 p0 e0, .slice D0 q0 f0] 39)).cell? ⟨wk0.heap.size, 1, none⟩ = some (.slice D0 q0 f0) := bz.cell 1
  all_goals have hw0 := hw0.keep hba
  all_goals clear bz hba hbk0 hok0 HS hsz
  all_goals go_wp2_with fail
  all_goals generalize wk0.alloc (.cells #[.slice C0 p0 e0, .slice D0 q0 f0] 39) = wl0 at hb y0_0 y0_1 y1_0 y1_1 y1_2 y2_0 y2_1 y3_0 y3_1 l0 l1 l2 l3 hw0 ⊢
  all_goals have hs : Below w.heap.size w wl0 ∧ wl0.heap.size ≤ wl0.heap.size ∧ wl0.cell? ⟨w.heap.size, 0, none⟩ = some (.slice A0 n0 c0) ∧ wl0.cell? ⟨w.heap.size, 1, none⟩ = some (.slice B0 m0 d0) ∧ wl0.cell? ⟨w.heap.size + 1, 0, none⟩ = some (.int .i64 a.start) ∧ wl0.cell? ⟨w.heap.size + 1, 1, none⟩ = some (.slice A1 n1 c1) ∧ wl0.cell? ⟨w.heap.size + 1, 2, none⟩ = some (.slice B1 m1 d1) ∧ wl0.cell? ⟨w.heap.size + 1 + 1, 0, none⟩ = some (.int .i64 k.1) ∧ wl0.cell? ⟨w.heap.size + 1 + 1, 1, none⟩ = some (.slice A4 n4 c4) ∧ wl0.cell? ⟨wk0.heap.size, 0, none⟩ = some (.slice C0 p0 e0) ∧ wl0.cell? ⟨wk0.heap.size, 1, none⟩ = some (.slice D0 q0 f0) := ⟨hb, Nat.le_refl _, y0_0, y0_1, y1_0, y1_1, y1_2, y2_0, y2_1, y3_0, y3_1⟩
  all_goals have HS := Lib.hid hs
  all_goals clear hs
  all_goals (refine (toAutomaton_any _ a _ (hvo1.keep hb) ha1 hc1 HD1.out).mono ?_; rintro e wk1 ⟨vk1, rfl, hok1, hbk1⟩)
  all_goals have hw1 := hok1.view.all (Nat.le_refl _)
  all_goals have hw0 := hw0.keep hbk1
  all_goals obtain ⟨C1, p1, e1, D1, q1, f1, rfl⟩ := hw1.shape
  all_goals have hba : Below wk1.heap.size wk1 (wk1.alloc (.cells #[.int .i64 a.start, .slice C1 p1 e1, .slice D1 q1 f1] 41)) := (Below.refl _ _).alloc (Nat.le_refl _) _
  all_goals have hs := hold9 l0 l0 l1 l1 l1 l2 l2 l3 l3 (below_trans hbk1 hba) HS.out
  all_goals have bz := Blk.new wk1 41 #[.int .i64 a.start, .slice C1 p1 e1, .slice D1 q1 f1] wk1.heap.size rfl
  all_goals clear hb y0_0 y0_1 y1_0 y1_1 y1_2 y2_0 y2_1 y3_0 y3_1
  all_goals obtain ⟨hb, hsz, y0_0, y0_1, y1_0, y1_1, y1_2, y2_0, y2_1, y3_0, y3_1⟩ := hs
  all_goals have l0 := Nat.lt_of_lt_of_le l0 hsz
  all_goals have l1 := Nat.lt_of_lt_of_le l1 hsz
  all_goals have l2 := Nat.lt_of_lt_of_le l2 hsz
  all_goals have l3 := Nat.lt_of_lt_of_le l3 hsz
  all_goals have l4 := bz.lt
  all_goals have y4_0 : (wk1.alloc (.cells #[.int .i64 a.start, .slice C1 p1 e1, .slice D1 q1 f1] 41)).cell? ⟨wk1.heap.size, 0, none⟩ = some (.int .i64 a.start) := bz.cell 0
  all_goals have y4_1 : (wk1.alloc (.cells #[.int .i64 a.start, .slice C1 p1 e1, .slice D1 q1 f1] 41)).cell? ⟨wk1.heap.size, 1, none⟩ = some (.slice C1 p1 e1) := bz.cell 1
  all_goals have y4_2 : (wk1.alloc (.cells #[.int .i64 a.start, .slice C1 p1 e1, .slice D1 q1 f1] 41)).cell? ⟨wk1.heap.size, 2, none⟩ = some (.slice D1 q1 f1) := bz.cell 2
  all_goals have hw0 := hw0.keep hba
  all_goals have hw1 := hw1.keep hba
  all_goals clear bz hba hbk1 hok1 HS hsz
  all_goals go_wp2_with fail
  all_goals generalize wk1.alloc (.cells #[.int .i64 a.start, .slice C1 p1 e1, .slice D1 q1 f1] 41) = wl1 at hb y0_0 y0_1 y1_0 y1_1 y1_2 y2_0 y2_1 y3_0 y3_1 y4_0 y4_1 y4_2 l0 l1 l2 l3 l4 hw0 hw1 ⊢
  all_goals have hs : Below w.heap.size w wl1 ∧ wl1.heap.size ≤ wl1.heap.size ∧ wl1.cell? ⟨w.heap.size, 0, none⟩ = some (.slice A0 n0 c0) ∧ wl1.cell? ⟨w.heap.size, 1, none⟩ = some (.slice B0 m0 d0) ∧ wl1.cell? ⟨w.heap.size + 1, 0, none⟩ = some (.int .i64 a.start) ∧ wl1.cell? ⟨w.heap.size + 1, 1, none⟩ = some (.slice A1 n1 c1) ∧ wl1.cell? ⟨w.heap.size + 1, 2, none⟩ = some (.slice B1 m1 d1) ∧ wl1.cell? ⟨w.heap.size + 1 + 1, 0, none⟩ = some (.int .i64 k.1) ∧ wl1.cell? ⟨w.heap.size + 1 + 1, 1, none⟩ = some (.slice A4 n4 c4) ∧ wl1.cell? ⟨wk0.heap.size, 0, none⟩ = some (.slice C0 p0 e0) ∧ wl1.cell? ⟨wk0.heap.size, 1, none⟩ = some (.slice D0 q0 f0) ∧ wl1.cell? ⟨wk1.heap.size, 0, none⟩ = some (.int .i64 a.start) ∧ wl1.cell? ⟨wk1.heap.size, 1, none⟩ = some (.slice C1 p1 e1) ∧ wl1.cell? ⟨wk1.heap.size, 2, none⟩ = some (.slice D1 q1 f1) := ⟨hb, Nat.le_refl _, y0_0, y0_1, y1_0, y1_1, y1_2, y2_0, y2_1, y3_0, y3_1, y4_0, y4_1, y4_2⟩
  all_goals have HS := Lib.hid hs
  all_goals clear hs
  all_goals (refine (toWalk_any _ k _ (hvo4.keep hb) ha4).mono ?_; rintro e wk4 ⟨vk4, rfl, hok4, hbk4⟩)
  all_goals have hw4 := hok4.view.all (Nat.le_refl _)
  all_goals have hw0 := hw0.keep hbk4
  all_goals have hw1 := hw1.keep hbk4
  all_goals obtain ⟨C4, p4, e4, rfl⟩ := hw4.shape
  all_goals have hba : Below wk4.heap.size wk4 (wk4.alloc (.cells #[.int .i64 k.1, .slice C4 p4 e4] 34)) := (Below.refl _ _).alloc (Nat.le_refl _) _
  all_goals have hs := hold12 l0 l0 l1 l1 l1 l2 l2 l3 l3 l4 l4 l4 (below_trans hbk4 hba) HS.out
  all_goals have bz := Blk.new wk4 34 #[.int .i64 k.1, .slice C4 p4 e4] wk4.heap.size rfl
  all_goals clear hb y0_0 y0_1 y1_0 y1_1 y1_2 y2_0 y2_1 y3_0 y3_1 y4_0 y4_1 y4_2
  all_goals obtain ⟨hb, hsz, y0_0, y0_1, y1_0, y1_1, y1_2, y2_0, y2_1, y3_0, y3_1, y4_0, y4_1, y4_2⟩ := hs
  all_goals have l0 := Nat.lt_of_lt_of_le l0 hsz
  all_goals have l1 := Nat.lt_of_lt_of_le l1 hsz
  all_goals have l2 := Nat.lt_of_lt_of_le l2 hsz
  all_goals have l3 := Nat.lt_of_lt_of_le l3 hsz
  all_goals have l4 := Nat.lt_of_lt_of_le l4 hsz
  all_goals have l5 := bz.lt
  all_goals have y5_0 : (wk4.alloc (.cells #[.int .i64 k.1, .slice C4 p4 e4] 34)).cell? ⟨wk4.heap.size, 0, none⟩ = some (.int .i64 k.1) := bz.cell 0
  all_goals have y5_1 : (wk4.alloc (.cells #[.int .i64 k.1, .slice C4 p4 e4] 34)).cell? ⟨wk4.heap.size, 1, none⟩ = some (.slice C4 p4 e4) := bz.cell 1
  all_goals have hw0 := hw0.keep hba
  all_goals have hw1 := hw1.keep hba
  all_goals have hw4 := hw4.keep hba
  all_goals clear bz hba hbk4 hok4 HS hsz
  all_goals go_wp2_with fail
  all_goals generalize wk4.alloc (.cells #[.int .i64 k.1, .slice C4 p4 e4] 34) = wl4 at hb y0_0 y0_1 y1_0 y1_1 y1_2 y2_0 y2_1 y3_0 y3_1 y4_0 y4_1 y4_2 y5_0 y5_1 l0 l1 l2 l3 l4 l5 hw0 hw1 hw4 ⊢
  all_goals have hs : Below w.heap.size w wl4 ∧ wl4.heap.size ≤ wl4.heap.size ∧ wl4.cell? ⟨w.heap.size, 0, none⟩ = some (.slice A0 n0 c0) ∧ wl4.cell? ⟨w.heap.size, 1, none⟩ = some (.slice B0 m0 d0) ∧ wl4.cell? ⟨w.heap.size + 1, 0, none⟩ = some (.int .i64 a.start) ∧ wl4.cell? ⟨w.heap.size + 1, 1, none⟩ = some (.slice A1 n1 c1) ∧ wl4.cell? ⟨w.heap.size + 1, 2, none⟩ = some (.slice B1 m1 d1) ∧ wl4.cell? ⟨w.heap.size + 1 + 1, 0, none⟩ = some (.int .i64 k.1) ∧ wl4.cell? ⟨w.heap.size + 1 + 1, 1, none⟩ = some (.slice A4 n4 c4) ∧ wl4.cell? ⟨wk0.heap.size, 0, none⟩ = some (.slice C0 p0 e0) ∧ wl4.cell? ⟨wk0.heap.size, 1, none⟩ = some (.slice D0 q0 f0) ∧ wl4.cell? ⟨wk1.heap.size, 0, none⟩ = some (.int .i64 a.start) ∧ wl4.cell? ⟨wk1.heap.size, 1, none⟩ = some (.slice C1 p1 e1) ∧ wl4.cell? ⟨wk1.heap.size, 2, none⟩ = some (.slice D1 q1 f1) ∧ wl4.cell? ⟨wk4.heap.size, 0, none⟩ = some (.int .i64 k.1) ∧ wl4.cell? ⟨wk4.heap.size, 1, none⟩ = some (.slice C4 p4 e4) := ⟨hb, Nat.le_refl _, y0_0, y0_1, y1_0, y1_1, y1_2, y2_0, y2_1, y3_0, y3_1, y4_0, y4_1, y4_2, y5_0, y5_1⟩
  all_goals have HS := Lib.hid hs
  all_goals clear hs
  all_goals (refine (implRankShortest _ _ _ g a x y k _ hw0 hw1 hw4).mono ?_; rintro e wres ⟨rfl, hbres⟩)
  all_goals have hs := hold14 l0 l0 l1 l1 l1 l2 l2 l3 l3 l4 l4 l4 l5 l5 hbres HS.out
  all_goals clear hb y0_0 y0_1 y1_0 y1_1 y1_2 y2_0 y2_1 y3_0 y3_1 y4_0 y4_1 y4_2 y5_0 y5_1 HS
  all_goals have HS := Lib.hid hs
  all_goals obtain ⟨hb, -, y0_0, y0_1, y1_0, y1_1, y1_2, y2_0, y2_1, y3_0, y3_1, y4_0, y4_1, y4_2, y5_0, y5_1⟩ := hs
  all_goals have hw0 := hw0.keep hbres
  all_goals have hw1 := hw1.keep hbres
  all_goals have hw4 := hw4.keep hbres
  all_goals generalize rankSh g a x y k = bb
  all_goals go_wp2_with fail
  all_goals have hsz := HS.out.2.1
  all_goals go_region_held3 (fun w' => Below w.heap.size w w' ∧ wl4.heap.size ≤ w'.heap.size ∧ w'.cell? ⟨w.heap.size, 0, none⟩ = some (.slice A0 n0 c0) ∧ w'.cell? ⟨w.heap.size, 1, none⟩ = some (.slice B0 m0 d0) ∧ w'.cell? ⟨w.heap.size + 1, 0, none⟩ = some (.int .i64 a.start) ∧ w'.cell? ⟨w.heap.size + 1, 1, none⟩ = some (.slice A1 n1 c1) ∧ w'.cell? ⟨w.heap.size + 1, 2, none⟩ = some (.slice B1 m1 d1) ∧ w'.cell? ⟨w.heap.size + 1 + 1, 0, none⟩ = some (.int .i64 k.1) ∧ w'.cell? ⟨w.heap.size + 1 + 1, 1, none⟩ = some (.slice A4 n4 c4) ∧ w'.cell? ⟨wk0.heap.size, 0, none⟩ = some (.slice C0 p0 e0) ∧ w'.cell? ⟨wk0.heap.size, 1, none⟩ = some (.slice D0 q0 f0) ∧ w'.cell? ⟨wk1.heap.size, 0, none⟩ = some (.int .i64 a.start) ∧ w'.cell? ⟨wk1.heap.size, 1, none⟩ = some (.slice C1 p1 e1) ∧ w'.cell? ⟨wk1.heap.size, 2, none⟩ = some (.slice D1 q1 f1) ∧ w'.cell? ⟨wk4.heap.size, 0, none⟩ = some (.int .i64 k.1) ∧ w'.cell? ⟨wk4.heap.size, 1, none⟩ = some (.slice C4 p4 e4))
    (first | (exact ⟨hb.drew, hsz, y0_0, y0_1, y1_0, y1_1, y1_2, y2_0, y2_1, y3_0, y3_1, y4_0, y4_1, y4_2, y5_0, y5_1⟩) | (exact hold14 l0 l0 l1 l1 l1 l2 l2 l3 l3 l4 l4 l4 l5 l5 (by assumption) (by assumption)))
    (first | (go_at_call 10; refine (toGraph_any _ g _ (hvo0.keep (hold_below (by assumption))) ha0 hc0).mono ?_; rintro e wd0 ⟨vd0, rfl, hod0, hbd0⟩) | (go_at_call 14; refine (eqGraph_same _ _ g _ (GrV.keep (w := wres.drew) hw0 hbd0) (hod0.view.all (Nat.le_refl _))).mono ?_; rintro e we0 ⟨rfl, hbe0⟩))
  all_goals clear hb y0_0 y0_1 y1_0 y1_1 y1_2 y2_0 y2_1 y3_0 y3_1 y4_0 y4_1 y4_2 y5_0 y5_1
  all_goals (rename_i hh; have HS := Lib.hid hh; obtain ⟨hb, -, y0_0, y0_1, y1_0, y1_1, y1_2, y2_0, y2_1, y3_0, y3_1, y4_0, y4_1, y4_2, y5_0, y5_1⟩ := hh)
  all_goals have hw0 := GrV.keep (GrV.keep (w := wres.drew) hw0 hbd0) hbe0
  all_goals have hw1 := AuV.keep (AuV.keep (w := wres.drew) hw1 hbd0) hbe0
  all_goals have hw4 := WkV.keep (WkV.keep (w := wres.drew) hw4 hbd0) hbe0
  all_goals clear hsz
  all_goals go_wp2_with fail
  all_goals have hsz := HS.out.2.1
  all_goals go_region_held3 (fun w' => Below w.heap.size w w' ∧ wl4.heap.size ≤ w'.heap.size ∧ w'.cell? ⟨w.heap.size, 0, none⟩ = some (.slice A0 n0 c0) ∧ w'.cell? ⟨w.heap.size, 1, none⟩ = some (.slice B0 m0 d0) ∧ w'.cell? ⟨w.heap.size + 1, 0, none⟩ = some (.int .i64 a.start) ∧ w'.cell? ⟨w.heap.size + 1, 1, none⟩ = some (.slice A1 n1 c1) ∧ w'.cell? ⟨w.heap.size + 1, 2, none⟩ = some (.slice B1 m1 d1) ∧ w'.cell? ⟨w.heap.size + 1 + 1, 0, none⟩ = some (.int .i64 k.1) ∧ w'.cell? ⟨w.heap.size + 1 + 1, 1, none⟩ = some (.slice A4 n4 c4) ∧ w'.cell? ⟨wk0.heap.size, 0, none⟩ = some (.slice C0 p0 e0) ∧ w'.cell? ⟨wk0.heap.size, 1, none⟩ = some (.slice D0 q0 f0) ∧ w'.cell? ⟨wk1.heap.size, 0, none⟩ = some (.int .i64 a.start) ∧ w'.cell? ⟨wk1.heap.size, 1, none⟩ = some (.slice C1 p1 e1) ∧ w'.cell? ⟨wk1.heap.size, 2, none⟩ = some (.slice D1 q1 f1) ∧ w'.cell? ⟨wk4.heap.size, 0, none⟩ = some (.int .i64 k.1) ∧ w'.cell? ⟨wk4.heap.size, 1, none⟩ = some (.slice C4 p4 e4))
    (first | (exact ⟨hb.drew, hsz, y0_0, y0_1, y1_0, y1_1, y1_2, y2_0, y2_1, y3_0, y3_1, y4_0, y4_1, y4_2, y5_0, y5_1⟩) | (exact hold14 l0 l0 l1 l1 l1 l2 l2 l3 l3 l4 l4 l4 l5 l5 (by assumption) (by assumption)))
    (first | (go_at_call 11; refine (toAutomaton_any _ a _ (hvo1.keep (hold_below (by assumption))) ha1 hc1 HD1.out).mono ?_; rintro e wd1 ⟨vd1, rfl, hod1, hbd1⟩) | (go_at_call 15; refine (eqAutomaton_same _ _ a _ (AuV.keep (w := we0.drew) hw1 hbd1) (hod1.view.all (Nat.le_refl _))).mono ?_; rintro e we1 ⟨rfl, hbe1⟩))
  all_goals clear hb y0_0 y0_1 y1_0 y1_1 y1_2 y2_0 y2_1 y3_0 y3_1 y4_0 y4_1 y4_2 y5_0 y5_1
  all_goals (rename_i hh; have HS := Lib.hid hh; obtain ⟨hb, -, y0_0, y0_1, y1_0, y1_1, y1_2, y2_0, y2_1, y3_0, y3_1, y4_0, y4_1, y4_2, y5_0, y5_1⟩ := hh)
  all_goals have hw0 := GrV.keep (GrV.keep (w := we0.drew) hw0 hbd1) hbe1
  all_goals have hw1 := AuV.keep (AuV.keep (w := we0.drew) hw1 hbd1) hbe1
  all_goals have hw4 := WkV.keep (WkV.keep (w := we0.drew) hw4 hbd1) hbe1
  all_goals clear hsz
  all_goals go_wp2_with fail
  all_goals have hsz := HS.out.2.1
  all_goals go_region_held3 (fun w' => Below w.heap.size w w' ∧ wl4.heap.size ≤ w'.heap.size ∧ w'.cell? ⟨w.heap.size, 0, none⟩ = some (.slice A0 n0 c0) ∧ w'.cell? ⟨w.heap.size, 1, none⟩ = some (.slice B0 m0 d0) ∧ w'.cell? ⟨w.heap.size + 1, 0, none⟩ = some (.int .i64 a.start) ∧ w'.cell? ⟨w.heap.size + 1, 1, none⟩ = some (.slice A1 n1 c1) ∧ w'.cell? ⟨w.heap.size + 1, 2, none⟩ = some (.slice B1 m1 d1) ∧ w'.cell? ⟨w.heap.size + 1 + 1, 0, none⟩ = some (.int .i64 k.1) ∧ w'.cell? ⟨w.heap.size + 1 + 1, 1, none⟩ = some (.slice A4 n4 c4) ∧ w'.cell? ⟨wk0.heap.size, 0, none⟩ = some (.slice C0 p0 e0) ∧ w'.cell? ⟨wk0.heap.size, 1, none⟩ = some (.slice D0 q0 f0) ∧ w'.cell? ⟨wk1.heap.size, 0, none⟩ = some (.int .i64 a.start) ∧ w'.cell? ⟨wk1.heap.size, 1, none⟩ = some (.slice C1 p1 e1) ∧ w'.cell? ⟨wk1.heap.size, 2, none⟩ = some (.slice D1 q1 f1) ∧ w'.cell? ⟨wk4.heap.size, 0, none⟩ = some (.int .i64 k.1) ∧ w'.cell? ⟨wk4.heap.size, 1, none⟩ = some (.slice C4 p4 e4))
    (first | (exact ⟨hb.drew, hsz, y0_0, y0_1, y1_0, y1_1, y1_2, y2_0, y2_1, y3_0, y3_1, y4_0, y4_1, y4_2, y5_0, y5_1⟩) | (exact hold14 l0 l0 l1 l1 l1 l2 l2 l3 l3 l4 l4 l4 l5 l5 (by assumption) (by assumption)))
    (first | (go_at_call 22; refine (toWalk_any _ k _ (hvo4.keep (hold_below (by assumption))) ha4).mono ?_; rintro e wd4 ⟨vd4, rfl, hod4, hbd4⟩) | (go_at_call 13; refine (eqWalk_same _ _ k _ (WkV.keep (w := we1.drew) hw4 hbd4) (hod4.view.all (Nat.le_refl _))).mono ?_; rintro e we4 ⟨rfl, hbe4⟩))
  all_goals clear hb y0_0 y0_1 y1_0 y1_1 y1_2 y2_0 y2_1 y3_0 y3_1 y4_0 y4_1 y4_2 y5_0 y5_1
  all_goals (rename_i hh; have HS := Lib.hid hh; obtain ⟨hb, -, y0_0, y0_1, y1_0, y1_1, y1_2, y2_0, y2_1, y3_0, y3_1, y4_0, y4_1, y4_2, y5_0, y5_1⟩ := hh)
  all_goals have hw0 := GrV.keep (GrV.keep (w := we1.drew) hw0 hbd4) hbe4
  all_goals have hw1 := AuV.keep (AuV.keep (w := we1.drew) hw1 hbd4) hbe4
  all_goals have hw4 := WkV.keep (WkV.keep (w := we1.drew) hw4 hbd4) hbe4
  all_goals clear hsz
  all_goals go_wp2_with fail
  all_goals go_ret
  all_goals exact ⟨rfl, hb⟩

end Go.Proofs.Ytlhpcknpjdeebaa.fnExactRankShortest

namespace Go.Proofs.Ytlhpcknpjdeebaa.fnExactRankShortest
set_option linter.unusedVariables false
set_option linter.unusedSimpArgs false
open Go.ChangeShapes Go.WideShapes Go.ChangeAt Go.RowKit
/-! ### The row -/
theorem own : ownKnob Try.prog.godebug = none := by kernel_rfl
theorem laidOut : laidOutB Try.prog = true := by kernel_rfl
set_option maxRecDepth 100000 in
theorem lifted (os : Os) (started : os.Started) (H : Type) (enc : TypeId × Value → H) :
    ReturnsInHanded {} Try.checked os 4 .any (Rows.fnExactRankShortestSpec.pre6 enc Try.prog Try.f4 Rows.fnExactRankShortestRow.domain false) (Rows.fnExactRankShortestSpec.post enc Try.prog Try.f4 false true false false) := by
  refine returnsInHanded_of_change (C := Try.checked) own started (by kernel_rfl) Try.func4
    (ChangeSpec.witness6 (enc := enc) (C := Try.checked) false ⟨#[], #[.agg #[.slice none 0 0, .slice none 0 0], .agg #[.int .i64 0, .slice none 0 0, .slice none 0 0], .int .i64 0, .int .i64 0, .agg #[.int .i64 0, .slice none 0 0]], []⟩ 8 (by kernel_rfl) (by kernel_rfl) (by kernel_rfl) (by kernel_rfl)) ?_
  intro W base args ds gs before hval0 hW hcnd _
  have hval : ∀ (j : Nat) t v, Try.f4.params[j]? = some t → args[j]? = some v → Value.okWide Try.prog W .any base t v := hval0
  have hW' := hW
  obtain ⟨p, q, hA0, hV, rfl, hfz, hnd⟩ := hW
  have hA : DataW.TrodAll enc Try.prog W 0 (fun _ => true) true Try.f4.params.toList args.toList ds p := hA0
  rw [Try.params4] at hA hval
  obtain ⟨v0, vs0, d0, ds0, p0, q0, hargs, rfl, rfl, h0, r0⟩ := trodAll_cons hA
  obtain ⟨v1, vs1, d1, ds1, p1, q1, rfl, rfl, rfl, h1, r1⟩ := trodAll_cons r0
  obtain ⟨v2, vs2, d2, ds2, p2, q2, rfl, rfl, rfl, h2, r2⟩ := trodAll_cons r1
  obtain ⟨v3, vs3, d3, ds3, p3, q3, rfl, rfl, rfl, h3, r3⟩ := trodAll_cons r2
  obtain ⟨v4, vs4, d4, ds4, p4, q4, rfl, rfl, rfl, h4, r4⟩ := trodAll_cons r3
  obtain ⟨rfl, rfl, rfl⟩ := trodAll_nil r4
  obtain rfl : args = #[v0, v1, v2, v3, v4] := by cases args; simp_all
  obtain ⟨rfl, rfl⟩ := trodVars_none hV
  obtain ⟨a0, w0⟩ := openGraph (hval 0 25 v0 rfl rfl) h0
  obtain ⟨a1, w1⟩ := openAutomaton (hval 1 29 v1 rfl rfl) h1
  obtain ⟨a2, rfl, rfl, rfl, w2⟩ := open_int Try.underlying3 (hval 2 3 v2 rfl rfl) h2
  obtain ⟨a3, rfl, rfl, rfl, w3⟩ := open_int Try.underlying3 (hval 3 3 v3 rfl rfl) h3
  obtain ⟨a4, w4⟩ := openWalk (hval 4 52 v4 rfl rfl) h4
  refine (walk W v0 a0 w0 v1 a1 w1 a2 w2 a3 w3 v4 a4 w4).mono fun e W' ⟨he, hb⟩ => ?_
  subst he
  exact ⟨_, rfl, law_post laidOut (by kernel_rfl) rfl Try.underlying4 rfl rfl hW' hb⟩
theorem unf : Try.pinned.checked.prog.unfollowed 4 = true := by kernel_rfl
theorem inpl : Try.pinned.checked.prog.inPlace 4 = [] := by kernel_rfl
theorem vnam : Try.pinned.checked.prog.varsNamed 4 = [] := by kernel_rfl
theorem rec_ : Try.pinned.checked.prog.recurses 4 = true := by rw [Program.recurses, unf, Bool.true_or]
theorem over : Rows.fnExactRankShortestRow.holds Try.pinned (OpenSpec.ofChange Rows.fnExactRankShortestSpec) :=
  OpenClaim.holds_of_wide 4 Try.f4 rfl rfl rfl rfl rfl rfl rfl ⟨rfl, rfl, rfl, rfl, rfl⟩ rfl rfl rfl rfl rfl (by kernel_rfl) Try.func4 (by unfold joinedFacts; rw [seat_mayEnter, seat_lifts, seat_laidOut, seat_mapsRowed, unf, rec_, inpl, vnam]; kernel_rfl)
    (of_decide_eq_true (by kernel_rfl)) (by unfold Func.isWrapper; first | (rw [if_pos (by decide +kernel)]; kernel_rfl) | (rw [if_neg (by decide +kernel)]; exact ⟨rfl, rfl⟩))
    (fun os started H enc _ => lifted os started H enc)
theorem proved : Rows.FnExactRankShortestSaid := over
end Go.Proofs.Ytlhpcknpjdeebaa.fnExactRankShortest

