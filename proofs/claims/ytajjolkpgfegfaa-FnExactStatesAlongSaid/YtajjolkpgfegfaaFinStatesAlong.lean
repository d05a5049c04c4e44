/- 'laws.FnExactStatesAlong' returns true for all arguments, without any condition: the program's StatesAlong equals the reference's, leaves its arguments alone, and its result shares no memory with them or with another result. -/
import Derived.Test.YtajjolkpgfegfaaPartEMKLPAPB
import Derived.Test.YtajjolkpgfegfaaPartCDOKCKDD
import Derived.Test.YtajjolkpgfegfaaPartBLNKPCEN
import Derived.Test.YtajjolkpgfegfaaPartAACLPFPK
import Derived.Test.YtajjolkpgfegfaaPartEIJBOOFA
import Derived.Deep.RegionHeld3
import Derived.Test.YtajjolkpgfegfaaPartNEAEJIME
namespace Go.Proofs.Ytajjolkpgfegfaa.fnExactStatesAlong
set_option linter.unusedVariables false
set_option linter.unusedSimpArgs false
open Go.ChangeShapes Go.WideShapes Go.ChangeAt Go.RowKit
attribute [local go_sem] ext_cell ext_frozen ext_lt ext_lt1 ext_lt2 ext_lt3 ltn2 ltn3 ltn13 lts1 lts2 lts3

set_option maxRecDepth 100000 in
set_option maxHeartbeats 8000000 in
theorem walk (w : World) (v0 : Value) (g : Gr) (hv0 : GrV 0 w.heap.size w v0 g) (v1 : Value) (a : Au) (hv1 : AuV 0 w.heap.size w v1 a) (v2 : Value) (k : Wk) (hv2 : WkV 0 w.heap.size w v2 k) :
    Calls Try.prog 10 #[v0, v1, v2] w fun e w' => e = .returned (.bool true) ∧ Below w.heap.size w w' := by
  have hlen : sumLen (statesL g a k) ≤ 1000 := statesL_sum g a k
  have hvo0 := hv0
  obtain ⟨A0, n0, c0, B0, m0, d0, rfl⟩ := hv0.shape
  clear hv0
  have hvo1 := hv1
  obtain ⟨A1, n1, c1, B1, m1, d1, rfl⟩ := hv1.shape
  clear hv1
  have hvo2 := hv2
  obtain ⟨A2, n2, c2, rfl⟩ := hv2.shape
  clear hv2
  have hb0 : Below w.heap.size w (((w.alloc (.cells #[.slice A0 n0 c0, .slice B0 m0 d0] 25)).alloc (.cells #[.int .i64 a.start, .slice A1 n1 c1, .slice B1 m1 d1] 29)).alloc (.cells #[.int .i64 k.1, .slice A2 n2 c2] 57)) := (((Below.refl _ _).alloc (Nat.le_refl _) _).alloc (by simp <;> omega) _).alloc (by simp <;> omega) _
  go_enter Try.func10, Try.ntmps10
  go_wp2_with fail
  refine (szGraph_any _ g 1048576 _ (hvo0.keep hb0) (by omega) (by omega)).mono ?_
  rintro e ws0 ⟨rfl, hbn⟩
  have bl0 := (((Blk.new w _ _ w.heap.size rfl).alloc _).alloc _).keep hbn
  have l0 := bl0.lt
  have y0_0 : ws0.cell? ⟨w.heap.size, 0, none⟩ = some (.slice A0 n0 c0) := bl0.cell 0
  have y0_1 : ws0.cell? ⟨w.heap.size, 1, none⟩ = some (.slice B0 m0 d0) := bl0.cell 1
  have bl1 := ((Blk.new (w.alloc _) _ _ (w.heap.size + 1) (by simp)).alloc _).keep hbn
  have l1 := bl1.lt
  have y1_0 : ws0.cell? ⟨w.heap.size + 1, 0, none⟩ = some (.int .i64 a.start) := bl1.cell 0
  have y1_1 : ws0.cell? ⟨w.heap.size + 1, 1, none⟩ = some (.slice A1 n1 c1) := bl1.cell 1
  have y1_2 : ws0.cell? ⟨w.heap.size + 1, 2, none⟩ = some (.slice B1 m1 d1) := bl1.cell 2
  have bl2 := (Blk.new ((w.alloc _).alloc _) _ _ (w.heap.size + 1 + 1) (by simp)).keep hbn
  have l2 := bl2.lt
  have y2_0 : ws0.cell? ⟨w.heap.size + 1 + 1, 0, none⟩ = some (.int .i64 k.1) := bl2.cell 0
  have y2_1 : ws0.cell? ⟨w.heap.size + 1 + 1, 1, none⟩ = some (.slice A2 n2 c2) := bl2.cell 1
  have hb := below_trans hb0 hbn
  clear bl0 bl1 bl2 hb0 hbn
  by_cases hz : (szGr g 1048576) < 0
  · have hzd : decide ((szGr g 1048576) < 0) = true := by simpa using hz
    clear hz
    go_wp2_with fail
    go_ret
    exact ⟨rfl, hb⟩
  have hzd : decide ((szGr g 1048576) < 0) = false := by simpa using hz
  obtain ⟨ha0, hc0, hz0, hzm⟩ := szGr_le g 1048576 hz
  have ha0 : g.vals.length ≤ 1048576 := by omega
  have hc0 : g.edges.length ≤ 1048576 := by omega
  generalize (szGr g 1048576) = z0 at hzd hz0 hzm ⊢
  clear hz
  have hzm0 : z0 ≤ 1048576 := by omega
  have hz00 := hz0
  clear hz0 hzm
  go_wp2_with fail
  clear hzd
  refine (szAutomatonD_any _ a z0 _ (hvo1.keep hb) (by omega) (by omega)).mono ?_
  rintro e ws1 ⟨rfl, hbn⟩
  replace y0_0 := kcell hbn y0_0
  replace y0_1 := kcell hbn y0_1
  replace y1_0 := kcell hbn y1_0
  replace y1_1 := kcell hbn y1_1
  replace y1_2 := kcell hbn y1_2
  replace y2_0 := kcell hbn y2_0
  replace y2_1 := kcell hbn y2_1
  replace l0 := Nat.lt_of_lt_of_le l0 hbn.size
  replace l1 := Nat.lt_of_lt_of_le l1 hbn.size
  replace l2 := Nat.lt_of_lt_of_le l2 hbn.size
  have z_ws1 := hbn.size
  replace hb := below_trans hb hbn
  clear hbn
  by_cases hz : (szAuD a z0) < 0
  · have hzd : decide ((szAuD a z0) < 0) = true := by simpa using hz
    clear hz
    go_wp2_with fail
    go_ret
    exact ⟨rfl, hb⟩
  have hzd : decide ((szAuD a z0) < 0) = false := by simpa using hz
  obtain ⟨ha1, hc1, hd1, hz0, hzm⟩ := szAuD_le a z0 (by omega) hz
  have he1 : sumLen a.next ≤ 1099511627776 := Nat.le_trans (sumLen_le a.next 1048576 hd1) (by omega)
  have HD1 := Lib.hid hd1
  clear hd1
  generalize (szAuD a z0) = z1 at hzd hz0 hzm ⊢
  clear hz
  have hzm1 : z1 ≤ 1048576 := by omega
  have hz01 := hz0
  clear hz0 hzm
  go_wp2_with fail
  clear hzd
  refine (szWalkD_any _ k z1 _ (hvo2.keep hb) (by omega) (by omega)).mono ?_
  rintro e ws2 ⟨rfl, hbn⟩
  replace y0_0 := kcell hbn y0_0
  replace y0_1 := kcell hbn y0_1
  replace y1_0 := kcell hbn y1_0
  replace y1_1 := kcell hbn y1_1
  replace y1_2 := kcell hbn y1_2
  replace y2_0 := kcell hbn y2_0
  replace y2_1 := kcell hbn y2_1
  replace l0 := Nat.lt_of_lt_of_le l0 hbn.size
  replace l1 := Nat.lt_of_lt_of_le l1 hbn.size
  replace l2 := Nat.lt_of_lt_of_le l2 hbn.size
  have z_ws2 := hbn.size
  replace hb := below_trans hb hbn
  clear hbn
  by_cases hz : (szWk k z1) < 0
  · have hzd : decide ((szWk k z1) < 0) = true := by simpa using hz
    clear hz
    go_wp2_with fail
    go_ret
    exact ⟨rfl, hb⟩
  have hzd : decide ((szWk k z1) < 0) = false := by simpa using hz
  obtain ⟨ha2, hz0, hzm⟩ := szWk_le k z1 hz
  have ha2 : k.2.length ≤ 1048576 := by omega
  generalize (szWk k z1) = z2 at hzd hz0 hzm ⊢
  clear hz
  have hzm2 : z2 ≤ 1048576 := by omega
  have hz02 := hz0
  clear hz0 hzm
  go_wp2_with fail
  clear hzd
  clear hzm2 hz02
  clear hzm1 hz01
  clear hzm0 hz00
  have zw : w.heap.size + 3 ≤ ws2.heap.size := by omega
  go_region_held3 (fun w' => Below ws2.heap.size ws2 w' ∧ ws2.heap.size ≤ w'.heap.size ∧ w'.cell? ⟨w.heap.size, 0, none⟩ = some (.slice A0 n0 c0) ∧ w'.cell? ⟨w.heap.size, 1, none⟩ = some (.slice B0 m0 d0) ∧ w'.cell? ⟨w.heap.size + 1, 0, none⟩ = some (.int .i64 a.start) ∧ w'.cell? ⟨w.heap.size + 1, 1, none⟩ = some (.slice A1 n1 c1) ∧ w'.cell? ⟨w.heap.size + 1, 2, none⟩ = some (.slice B1 m1 d1) ∧ w'.cell? ⟨w.heap.size + 1 + 1, 0, none⟩ = some (.int .i64 k.1) ∧ w'.cell? ⟨w.heap.size + 1 + 1, 1, none⟩ = some (.slice A2 n2 c2))
    (first | (exact ⟨(Below.refl _ _).drew, Nat.le_refl _, y0_0, y0_1, y1_0, y1_1, y1_2, y2_0, y2_1⟩) | (exact hold7 l0 l0 l1 l1 l1 l2 l2 (by assumption) (by assumption)))
    (first | (go_at_call 18; refine (toGraph_any _ g _ (hvo0.keep (below_trans hb (hold_below (by assumption)))) ha0 hc0).mono ?_; rintro e wc0a ⟨vc0a, rfl, hoc0a, hbc0a⟩) | (go_at_call 19; refine (toAutomaton_any _ a _ (hvo1.keep (below_trans hb (hold_below (by assumption)))) ha1 hc1 HD1.out).mono ?_; rintro e wc1a ⟨vc1a, rfl, hoc1a, hbc1a⟩) | (go_at_call 45; refine (toWalk_any _ k _ (hvo2.keep (below_trans hb (hold_below (by assumption)))) ha2).mono ?_; rintro e wc2a ⟨vc2a, rfl, hoc2a, hbc2a⟩) | (go_at_call 44; refine (nso_of (specStatesAlong vc0a vc1a vc2a g a k _ (by first | exact (hoc0a.view.all (Nat.le_refl _)) | exact ((hoc0a.view.all (Nat.le_refl _)).keep hbc1a) | exact ((hoc0a.view.all (Nat.le_refl _)).keep hbc2a) | exact (((hoc0a.view.all (Nat.le_refl _)).keep hbc1a).keep hbc2a) | exact (((hoc0a.view.all (Nat.le_refl _)).keep hbc2a).keep hbc1a)) (by first | exact (hoc1a.view.all (Nat.le_refl _)) | exact ((hoc1a.view.all (Nat.le_refl _)).keep hbc0a) | exact ((hoc1a.view.all (Nat.le_refl _)).keep hbc2a) | exact (((hoc1a.view.all (Nat.le_refl _)).keep hbc0a).keep hbc2a) | exact (((hoc1a.view.all (Nat.le_refl _)).keep hbc2a).keep hbc0a)) (by first | exact (hoc2a.view.all (Nat.le_refl _)) | exact ((hoc2a.view.all (Nat.le_refl _)).keep hbc0a) | exact ((hoc2a.view.all (Nat.le_refl _)).keep hbc1a) | exact (((hoc2a.view.all (Nat.le_refl _)).keep hbc0a).keep hbc1a) | exact (((hoc2a.view.all (Nat.le_refl _)).keep hbc1a).keep hbc0a)))).mono ?_; rintro e wres ⟨vr, rfl, hor, hbres⟩))
  all_goals clear y0_0 y0_1 y1_0 y1_1 y1_2 y2_0 y2_1
  all_goals (rename_i hh; obtain ⟨hbn, -, y0_0, y0_1, y1_0, y1_1, y1_2, y2_0, y2_1⟩ := hh)
  all_goals replace l0 := Nat.lt_of_lt_of_le l0 hbn.size
  all_goals replace l1 := Nat.lt_of_lt_of_le l1 hbn.size
  all_goals replace l2 := Nat.lt_of_lt_of_le l2 hbn.size
  all_goals have z_wres := hbn.size
  all_goals replace hb := below_trans hb hbn
  all_goals clear hbn
  all_goals have hr := hor
  all_goals have hrs : wres.heap.size ≤ wres.heap.size := Nat.le_refl _
  all_goals clear hor
  all_goals go_wp2_with fail
  all_goals (refine (toGraph_any _ g _ (hvo0.keep hb) ha0 hc0).mono ?_; rintro e wk0 ⟨vk0, rfl, hx0, hbn⟩)
  all_goals obtain ⟨C0, p0, e0, D0, q0, f0, rfl⟩ := hx0.view.shape
  all_goals replace y0_0 := kcell hbn y0_0
  all_goals replace y0_1 := kcell hbn y0_1
  all_goals replace y1_0 := kcell hbn y1_0
  all_goals replace y1_1 := kcell hbn y1_1
  all_goals replace y1_2 := kcell hbn y1_2
  all_goals replace y2_0 := kcell hbn y2_0
  all_goals replace y2_1 := kcell hbn y2_1
  all_goals replace l0 := Nat.lt_of_lt_of_le l0 hbn.size
  all_goals replace l1 := Nat.lt_of_lt_of_le l1 hbn.size
  all_goals replace l2 := Nat.lt_of_lt_of_le l2 hbn.size
  all_goals replace hr := hr.below hbn hrs
  all_goals replace hrs := Nat.le_trans hrs hbn.size
  all_goals have z_wk0 := hbn.size
  all_goals replace hb := below_trans hb hbn
  all_goals clear hbn
  all_goals have hx0s : wk0.heap.size ≤ wk0.heap.size := Nat.le_refl _
  all_goals go_wp2_with fail
  all_goals have bz := Blk.new wk0 35 #[.slice C0 p0 e0, .slice D0 q0 f0] wk0.heap.size rfl
  all_goals have hbn : Below wk0.heap.size wk0 (wk0.alloc (.cells #[.slice C0 p0 e0, .slice D0 q0 f0] 35)) := (Below.refl _ _).alloc (Nat.le_refl _) _
  all_goals generalize wk0.alloc (.cells #[.slice C0 p0 e0, .slice D0 q0 f0] 35) = wl0 at hbn bz ⊢
  all_goals replace y0_0 := kcell hbn y0_0
  all_goals replace y0_1 := kcell hbn y0_1
  all_goals replace y1_0 := kcell hbn y1_0
  all_goals replace y1_1 := kcell hbn y1_1
  all_goals replace y1_2 := kcell hbn y1_2
  all_goals replace y2_0 := kcell hbn y2_0
  all_goals replace y2_1 := kcell hbn y2_1
  all_goals replace l0 := Nat.lt_of_lt_of_le l0 hbn.size
  all_goals replace l1 := Nat.lt_of_lt_of_le l1 hbn.size
  all_goals replace l2 := Nat.lt_of_lt_of_le l2 hbn.size
  all_goals replace hr := hr.below hbn hrs
  all_goals replace hrs := Nat.le_trans hrs hbn.size
  all_goals replace hx0 := hx0.below hbn hx0s
  all_goals replace hx0s := Nat.le_trans hx0s hbn.size
  all_goals have z_wl0 := hbn.size
  all_goals replace hb := below_trans hb hbn
  all_goals clear hbn
  all_goals have l3 := bz.lt
  all_goals have y3_0 : wl0.cell? ⟨wk0.heap.size, 0, none⟩ = some (.slice C0 p0 e0) := bz.cell 0
  all_goals have y3_1 : wl0.cell? ⟨wk0.heap.size, 1, none⟩ = some (.slice D0 q0 f0) := bz.cell 1
  all_goals clear bz
  all_goals (refine (toAutomaton_any _ a _ (hvo1.keep hb) ha1 hc1 HD1.out).mono ?_; rintro e wk1 ⟨vk1, rfl, hx1, hbn⟩)
  all_goals obtain ⟨C1, p1, e1, D1, q1, f1, rfl⟩ := hx1.view.shape
  all_goals replace y0_0 := kcell hbn y0_0
  all_goals replace y0_1 := kcell hbn y0_1
  all_goals replace y1_0 := kcell hbn y1_0
  all_goals replace y1_1 := kcell hbn y1_1
  all_goals replace y1_2 := kcell hbn y1_2
  all_goals replace y2_0 := kcell hbn y2_0
  all_goals replace y2_1 := kcell hbn y2_1
  all_goals replace y3_0 := kcell hbn y3_0
  all_goals replace y3_1 := kcell hbn y3_1
  all_goals replace l0 := Nat.lt_of_lt_of_le l0 hbn.size
  all_goals replace l1 := Nat.lt_of_lt_of_le l1 hbn.size
  all_goals replace l2 := Nat.lt_of_lt_of_le l2 hbn.size
  all_goals replace l3 := Nat.lt_of_lt_of_le l3 hbn.size
  all_goals replace hr := hr.below hbn hrs
  all_goals replace hrs := Nat.le_trans hrs hbn.size
  all_goals replace hx0 := hx0.below hbn hx0s
  all_goals replace hx0s := Nat.le_trans hx0s hbn.size
  all_goals have z_wk1 := hbn.size
  all_goals replace hb := below_trans hb hbn
  all_goals clear hbn
  all_goals have hx1s : wk1.heap.size ≤ wk1.heap.size := Nat.le_refl _
  all_goals go_wp2_with fail
  all_goals have bz := Blk.new wk1 37 #[.int .i64 a.start, .slice C1 p1 e1, .slice D1 q1 f1] wk1.heap.size rfl
  all_goals have hbn : Below wk1.heap.size wk1 (wk1.alloc (.cells #[.int .i64 a.start, .slice C1 p1 e1, .slice D1 q1 f1] 37)) := (Below.refl _ _).alloc (Nat.le_refl _) _
  all_goals generalize wk1.alloc (.cells #[.int .i64 a.start, .slice C1 p1 e1, .slice D1 q1 f1] 37) = wl1 at hbn bz ⊢
  all_goals replace y0_0 := kcell hbn y0_0
  all_goals replace y0_1 := kcell hbn y0_1
  all_goals replace y1_0 := kcell hbn y1_0
  all_goals replace y1_1 := kcell hbn y1_1
  all_goals replace y1_2 := kcell hbn y1_2
  all_goals replace y2_0 := kcell hbn y2_0
  all_goals replace y2_1 := kcell hbn y2_1
  all_goals replace y3_0 := kcell hbn y3_0
  all_goals replace y3_1 := kcell hbn y3_1
  all_goals replace l0 := Nat.lt_of_lt_of_le l0 hbn.size
  all_goals replace l1 := Nat.lt_of_lt_of_le l1 hbn.size
  all_goals replace l2 := Nat.lt_of_lt_of_le l2 hbn.size
  all_goals replace l3 := Nat.lt_of_lt_of_le l3 hbn.size
  all_goals replace hr := hr.below hbn hrs
  all_goals replace hrs := Nat.le_trans hrs hbn.size
  all_goals replace hx0 := hx0.below hbn hx0s
  all_goals replace hx0s := Nat.le_trans hx0s hbn.size
  all_goals replace hx1 := hx1.below hbn hx1s
  all_goals replace hx1s := Nat.le_trans hx1s hbn.size
  all_goals have z_wl1 := hbn.size
  all_goals replace hb := below_trans hb hbn
  all_goals clear hbn
  all_goals have l4 := bz.lt
  all_goals have y4_0 : wl1.cell? ⟨wk1.heap.size, 0, none⟩ = some (.int .i64 a.start) := bz.cell 0
  all_goals have y4_1 : wl1.cell? ⟨wk1.heap.size, 1, none⟩ = some (.slice C1 p1 e1) := bz.cell 1
  all_goals have y4_2 : wl1.cell? ⟨wk1.heap.size, 2, none⟩ = some (.slice D1 q1 f1) := bz.cell 2
  all_goals clear bz
  all_goals (refine (toWalk_any _ k _ (hvo2.keep hb) ha2).mono ?_; rintro e wk2 ⟨vk2, rfl, hx2, hbn⟩)
  all_goals obtain ⟨C2, p2, e2, rfl⟩ := hx2.view.shape
  all_goals replace y0_0 := kcell hbn y0_0
  all_goals replace y0_1 := kcell hbn y0_1
  all_goals replace y1_0 := kcell hbn y1_0
  all_goals replace y1_1 := kcell hbn y1_1
  all_goals replace y1_2 := kcell hbn y1_2
  all_goals replace y2_0 := kcell hbn y2_0
  all_goals replace y2_1 := kcell hbn y2_1
  all_goals replace y3_0 := kcell hbn y3_0
  all_goals replace y3_1 := kcell hbn y3_1
  all_goals replace y4_0 := kcell hbn y4_0
  all_goals replace y4_1 := kcell hbn y4_1
  all_goals replace y4_2 := kcell hbn y4_2
  all_goals replace l0 := Nat.lt_of_lt_of_le l0 hbn.size
  all_goals replace l1 := Nat.lt_of_lt_of_le l1 hbn.size
  all_goals replace l2 := Nat.lt_of_lt_of_le l2 hbn.size
  all_goals replace l3 := Nat.lt_of_lt_of_le l3 hbn.size
  all_goals replace l4 := Nat.lt_of_lt_of_le l4 hbn.size
  all_goals replace hr := hr.below hbn hrs
  all_goals replace hrs := Nat.le_trans hrs hbn.size
  all_goals replace hx0 := hx0.below hbn hx0s
  all_goals replace hx0s := Nat.le_trans hx0s hbn.size
  all_goals replace hx1 := hx1.below hbn hx1s
  all_goals replace hx1s := Nat.le_trans hx1s hbn.size
  all_goals have z_wk2 := hbn.size
  all_goals replace hb := below_trans hb hbn
  all_goals clear hbn
  all_goals have hx2s : wk2.heap.size ≤ wk2.heap.size := Nat.le_refl _
  all_goals go_wp2_with fail
  all_goals have bz := Blk.new wk2 62 #[.int .i64 k.1, .slice C2 p2 e2] wk2.heap.size rfl
  all_goals have hbn : Below wk2.heap.size wk2 (wk2.alloc (.cells #[.int .i64 k.1, .slice C2 p2 e2] 62)) := (Below.refl _ _).alloc (Nat.le_refl _) _
  all_goals generalize wk2.alloc (.cells #[.int .i64 k.1, .slice C2 p2 e2] 62) = wl2 at hbn bz ⊢
  all_goals replace y0_0 := kcell hbn y0_0
  all_goals replace y0_1 := kcell hbn y0_1
  all_goals replace y1_0 := kcell hbn y1_0
  all_goals replace y1_1 := kcell hbn y1_1
  all_goals replace y1_2 := kcell hbn y1_2
  all_goals replace y2_0 := kcell hbn y2_0
  all_goals replace y2_1 := kcell hbn y2_1
  all_goals replace y3_0 := kcell hbn y3_0
  all_goals replace y3_1 := kcell hbn y3_1
  all_goals replace y4_0 := kcell hbn y4_0
  all_goals replace y4_1 := kcell hbn y4_1
  all_goals replace y4_2 := kcell hbn y4_2
  all_goals replace l0 := Nat.lt_of_lt_of_le l0 hbn.size
  all_goals replace l1 := Nat.lt_of_lt_of_le l1 hbn.size
  all_goals replace l2 := Nat.lt_of_lt_of_le l2 hbn.size
  all_goals replace l3 := Nat.lt_of_lt_of_le l3 hbn.size
  all_goals replace l4 := Nat.lt_of_lt_of_le l4 hbn.size
  all_goals replace hr := hr.below hbn hrs
  all_goals replace hrs := Nat.le_trans hrs hbn.size
  all_goals replace hx0 := hx0.below hbn hx0s
  all_goals replace hx0s := Nat.le_trans hx0s hbn.size
  all_goals replace hx1 := hx1.below hbn hx1s
  all_goals replace hx1s := Nat.le_trans hx1s hbn.size
  all_goals replace hx2 := hx2.below hbn hx2s
  all_goals replace hx2s := Nat.le_trans hx2s hbn.size
  all_goals have z_wl2 := hbn.size
  all_goals replace hb := below_trans hb hbn
  all_goals clear hbn
  all_goals have l5 := bz.lt
  all_goals have y5_0 : wl2.cell? ⟨wk2.heap.size, 0, none⟩ = some (.int .i64 k.1) := bz.cell 0
  all_goals have y5_1 : wl2.cell? ⟨wk2.heap.size, 1, none⟩ = some (.slice C2 p2 e2) := bz.cell 1
  all_goals clear bz
  all_goals (refine (nso_of (implStatesAlong _ _ _ g a k _ (hx0.view.all hx0s) (hx1.view.all hx1s) (hx2.view.all hx2s))).mono ?_; rintro e wg ⟨vg, rfl, hg, hbn⟩)
  all_goals replace y0_0 := kcell hbn y0_0
  all_goals replace y0_1 := kcell hbn y0_1
  all_goals replace y1_0 := kcell hbn y1_0
  all_goals replace y1_1 := kcell hbn y1_1
  all_goals replace y1_2 := kcell hbn y1_2
  all_goals replace y2_0 := kcell hbn y2_0
  all_goals replace y2_1 := kcell hbn y2_1
  all_goals replace y3_0 := kcell hbn y3_0
  all_goals replace y3_1 := kcell hbn y3_1
  all_goals replace y4_0 := kcell hbn y4_0
  all_goals replace y4_1 := kcell hbn y4_1
  all_goals replace y4_2 := kcell hbn y4_2
  all_goals replace y5_0 := kcell hbn y5_0
  all_goals replace y5_1 := kcell hbn y5_1
  all_goals replace l0 := Nat.lt_of_lt_of_le l0 hbn.size
  all_goals replace l1 := Nat.lt_of_lt_of_le l1 hbn.size
  all_goals replace l2 := Nat.lt_of_lt_of_le l2 hbn.size
  all_goals replace l3 := Nat.lt_of_lt_of_le l3 hbn.size
  all_goals replace l4 := Nat.lt_of_lt_of_le l4 hbn.size
  all_goals replace l5 := Nat.lt_of_lt_of_le l5 hbn.size
  all_goals replace hr := hr.below hbn hrs
  all_goals replace hrs := Nat.le_trans hrs hbn.size
  all_goals replace hx0 := hx0.below hbn hx0s
  all_goals replace hx0s := Nat.le_trans hx0s hbn.size
  all_goals replace hx1 := hx1.below hbn hx1s
  all_goals replace hx1s := Nat.le_trans hx1s hbn.size
  all_goals replace hx2 := hx2.below hbn hx2s
  all_goals replace hx2s := Nat.le_trans hx2s hbn.size
  all_goals have z_wg := hbn.size
  all_goals replace hb := below_trans hb hbn
  all_goals clear hbn
  all_goals have hgs : wg.heap.size ≤ wg.heap.size := Nat.le_refl _
  all_goals go_wp2_with fail
  all_goals (refine (eqIntSS_same _ _ (statesL g a k) _ (hg.view.all hgs) (hr.view.all hrs)).mono ?_; rintro e wq0 ⟨rfl, hbn⟩)
  all_goals replace y0_0 := kcell hbn y0_0
  all_goals replace y0_1 := kcell hbn y0_1
  all_goals replace y1_0 := kcell hbn y1_0
  all_goals replace y1_1 := kcell hbn y1_1
  all_goals replace y1_2 := kcell hbn y1_2
  all_goals replace y2_0 := kcell hbn y2_0
  all_goals replace y2_1 := kcell hbn y2_1
  all_goals replace y3_0 := kcell hbn y3_0
  all_goals replace y3_1 := kcell hbn y3_1
  all_goals replace y4_0 := kcell hbn y4_0
  all_goals replace y4_1 := kcell hbn y4_1
  all_goals replace y4_2 := kcell hbn y4_2
  all_goals replace y5_0 := kcell hbn y5_0
  all_goals replace y5_1 := kcell hbn y5_1
  all_goals replace l0 := Nat.lt_of_lt_of_le l0 hbn.size
  all_goals replace l1 := Nat.lt_of_lt_of_le l1 hbn.size
  all_goals replace l2 := Nat.lt_of_lt_of_le l2 hbn.size
  all_goals replace l3 := Nat.lt_of_lt_of_le l3 hbn.size
  all_goals replace l4 := Nat.lt_of_lt_of_le l4 hbn.size
  all_goals replace l5 := Nat.lt_of_lt_of_le l5 hbn.size
  all_goals replace hr := hr.below hbn hrs
  all_goals replace hrs := Nat.le_trans hrs hbn.size
  all_goals replace hx0 := hx0.below hbn hx0s
  all_goals replace hx0s := Nat.le_trans hx0s hbn.size
  all_goals replace hx1 := hx1.below hbn hx1s
  all_goals replace hx1s := Nat.le_trans hx1s hbn.size
  all_goals replace hx2 := hx2.below hbn hx2s
  all_goals replace hx2s := Nat.le_trans hx2s hbn.size
  all_goals replace hg := hg.below hbn hgs
  all_goals replace hgs := Nat.le_trans hgs hbn.size
  all_goals have z_wq0 := hbn.size
  all_goals replace hb := below_trans hb hbn
  all_goals clear hbn
  all_goals go_wp2_with fail
  all_goals go_region_held3 (fun w' => Below wq0.heap.size wq0 w' ∧ wq0.heap.size ≤ w'.heap.size ∧ w'.cell? ⟨w.heap.size, 0, none⟩ = some (.slice A0 n0 c0) ∧ w'.cell? ⟨w.heap.size, 1, none⟩ = some (.slice B0 m0 d0) ∧ w'.cell? ⟨w.heap.size + 1, 0, none⟩ = some (.int .i64 a.start) ∧ w'.cell? ⟨w.heap.size + 1, 1, none⟩ = some (.slice A1 n1 c1) ∧ w'.cell? ⟨w.heap.size + 1, 2, none⟩ = some (.slice B1 m1 d1) ∧ w'.cell? ⟨w.heap.size + 1 + 1, 0, none⟩ = some (.int .i64 k.1) ∧ w'.cell? ⟨w.heap.size + 1 + 1, 1, none⟩ = some (.slice A2 n2 c2) ∧ w'.cell? ⟨wk0.heap.size, 0, none⟩ = some (.slice C0 p0 e0) ∧ w'.cell? ⟨wk0.heap.size, 1, none⟩ = some (.slice D0 q0 f0) ∧ w'.cell? ⟨wk1.heap.size, 0, none⟩ = some (.int .i64 a.start) ∧ w'.cell? ⟨wk1.heap.size, 1, none⟩ = some (.slice C1 p1 e1) ∧ w'.cell? ⟨wk1.heap.size, 2, none⟩ = some (.slice D1 q1 f1) ∧ w'.cell? ⟨wk2.heap.size, 0, none⟩ = some (.int .i64 k.1) ∧ w'.cell? ⟨wk2.heap.size, 1, none⟩ = some (.slice C2 p2 e2))
    (first | (exact ⟨(Below.refl _ _).drew, Nat.le_refl _, y0_0, y0_1, y1_0, y1_1, y1_2, y2_0, y2_1, y3_0, y3_1, y4_0, y4_1, y4_2, y5_0, y5_1⟩) | (exact hold14 l0 l0 l1 l1 l1 l2 l2 l3 l3 l4 l4 l4 l5 l5 (by assumption) (by assumption)))
    (first | (go_at_call 18; refine (toGraph_any _ g _ (hvo0.keep (below_trans hb (hold_below (by assumption)))) ha0 hc0).mono ?_; rintro e wd0 ⟨vd0, rfl, hod0, hbd0⟩) | (go_at_call 21; refine (eqGraph_same _ _ g _ ((hx0.view.all hx0s).keep (hold_below (by assumption))) (hod0.view.all (Nat.le_refl _))).mono ?_; rintro e we0 ⟨rfl, hbe0⟩))
  all_goals clear y0_0 y0_1 y1_0 y1_1 y1_2 y2_0 y2_1 y3_0 y3_1 y4_0 y4_1 y4_2 y5_0 y5_1
  all_goals (rename_i hh; obtain ⟨hbn, -, y0_0, y0_1, y1_0, y1_1, y1_2, y2_0, y2_1, y3_0, y3_1, y4_0, y4_1, y4_2, y5_0, y5_1⟩ := hh)
  all_goals replace l0 := Nat.lt_of_lt_of_le l0 hbn.size
  all_goals replace l1 := Nat.lt_of_lt_of_le l1 hbn.size
  all_goals replace l2 := Nat.lt_of_lt_of_le l2 hbn.size
  all_goals replace l3 := Nat.lt_of_lt_of_le l3 hbn.size
  all_goals replace l4 := Nat.lt_of_lt_of_le l4 hbn.size
  all_goals replace l5 := Nat.lt_of_lt_of_le l5 hbn.size
  all_goals replace hr := hr.below hbn hrs
  all_goals replace hrs := Nat.le_trans hrs hbn.size
  all_goals replace hx0 := hx0.below hbn hx0s
  all_goals replace hx0s := Nat.le_trans hx0s hbn.size
  all_goals replace hx1 := hx1.below hbn hx1s
  all_goals replace hx1s := Nat.le_trans hx1s hbn.size
  all_goals replace hx2 := hx2.below hbn hx2s
  all_goals replace hx2s := Nat.le_trans hx2s hbn.size
  all_goals replace hg := hg.below hbn hgs
  all_goals replace hgs := Nat.le_trans hgs hbn.size
  all_goals have z_we0 := hbn.size
  all_goals replace hb := below_trans hb hbn
  all_goals clear hbn
  all_goals clear hod0 hbd0 hbe0
  all_goals go_wp2_with fail
  all_goals go_region_held3 (fun w' => Below we0.heap.size we0 w' ∧ we0.heap.size ≤ w'.heap.size ∧ w'.cell? ⟨w.heap.size, 0, none⟩ = some (.slice A0 n0 c0) ∧ w'.cell? ⟨w.heap.size, 1, none⟩ = some (.slice B0 m0 d0) ∧ w'.cell? ⟨w.heap.size + 1, 0, none⟩ = some (.int .i64 a.start) ∧ w'.cell? ⟨w.heap.size + 1, 1, none⟩ = some (.slice A1 n1 c1) ∧ w'.cell? ⟨w.heap.size + 1, 2, none⟩ = some (.slice B1 m1 d1) ∧ w'.cell? ⟨w.heap.size + 1 + 1, 0, none⟩ = some (.int .i64 k.1) ∧ w'.cell? ⟨w.heap.size + 1 + 1, 1, none⟩ = some (.slice A2 n2 c2) ∧ w'.cell? ⟨wk0.heap.size, 0, none⟩ = some (.slice C0 p0 e0) ∧ w'.cell? ⟨wk0.heap.size, 1, none⟩ = some (.slice D0 q0 f0) ∧ w'.cell? ⟨wk1.heap.size, 0, none⟩ = some (.int .i64 a.start) ∧ w'.cell? ⟨wk1.heap.size, 1, none⟩ = some (.slice C1 p1 e1) ∧ w'.cell? ⟨wk1.heap.size, 2, none⟩ = some (.slice D1 q1 f1) ∧ w'.cell? ⟨wk2.heap.size, 0, none⟩ = some (.int .i64 k.1) ∧ w'.cell? ⟨wk2.heap.size, 1, none⟩ = some (.slice C2 p2 e2))
    (first | (exact ⟨(Below.refl _ _).drew, Nat.le_refl _, y0_0, y0_1, y1_0, y1_1, y1_2, y2_0, y2_1, y3_0, y3_1, y4_0, y4_1, y4_2, y5_0, y5_1⟩) | (exact hold14 l0 l0 l1 l1 l1 l2 l2 l3 l3 l4 l4 l4 l5 l5 (by assumption) (by assumption)))
    (first | (go_at_call 19; refine (toAutomaton_any _ a _ (hvo1.keep (below_trans hb (hold_below (by assumption)))) ha1 hc1 HD1.out).mono ?_; rintro e wd1 ⟨vd1, rfl, hod1, hbd1⟩) | (go_at_call 22; refine (eqAutomaton_same _ _ a _ ((hx1.view.all hx1s).keep (hold_below (by assumption))) (hod1.view.all (Nat.le_refl _))).mono ?_; rintro e we1 ⟨rfl, hbe1⟩))
  all_goals clear y0_0 y0_1 y1_0 y1_1 y1_2 y2_0 y2_1 y3_0 y3_1 y4_0 y4_1 y4_2 y5_0 y5_1
  all_goals (rename_i hh; obtain ⟨hbn, -, y0_0, y0_1, y1_0, y1_1, y1_2, y2_0, y2_1, y3_0, y3_1, y4_0, y4_1, y4_2, y5_0, y5_1⟩ := hh)
  all_goals replace l0 := Nat.lt_of_lt_of_le l0 hbn.size
  all_goals replace l1 := Nat.lt_of_lt_of_le l1 hbn.size
  all_goals replace l2 := Nat.lt_of_lt_of_le l2 hbn.size
  all_goals replace l3 := Nat.lt_of_lt_of_le l3 hbn.size
  all_goals replace l4 := Nat.lt_of_lt_of_le l4 hbn.size
  all_goals replace l5 := Nat.lt_of_lt_of_le l5 hbn.size
  all_goals replace hr := hr.below hbn hrs
  all_goals replace hrs := Nat.le_trans hrs hbn.size
  all_goals replace hx0 := hx0.below hbn hx0s
  all_goals replace hx0s := Nat.le_trans hx0s hbn.size
  all_goals replace hx1 := hx1.below hbn hx1s
  all_goals replace hx1s := Nat.le_trans hx1s hbn.size
  all_goals replace hx2 := hx2.below hbn hx2s
  all_goals replace hx2s := Nat.le_trans hx2s hbn.size
  all_goals replace hg := hg.below hbn hgs
  all_goals replace hgs := Nat.le_trans hgs hbn.size
  all_goals have z_we1 := hbn.size
  all_goals replace hb := below_trans hb hbn
  all_goals clear hbn
  all_goals clear hod1 hbd1 hbe1
  all_goals go_wp2_with fail
  all_goals go_region_held3 (fun w' => Below we1.heap.size we1 w' ∧ we1.heap.size ≤ w'.heap.size ∧ w'.cell? ⟨w.heap.size, 0, none⟩ = some (.slice A0 n0 c0) ∧ w'.cell? ⟨w.heap.size, 1, none⟩ = some (.slice B0 m0 d0) ∧ w'.cell? ⟨w.heap.size + 1, 0, none⟩ = some (.int .i64 a.start) ∧ w'.cell? ⟨w.heap.size + 1, 1, none⟩ = some (.slice A1 n1 c1) ∧ w'.cell? ⟨w.heap.size + 1, 2, none⟩ = some (.slice B1 m1 d1) ∧ w'.cell? ⟨w.heap.size + 1 + 1, 0, none⟩ = some (.int .i64 k.1) ∧ w'.cell? ⟨w.heap.size + 1 + 1, 1, none⟩ = some (.slice A2 n2 c2) ∧ w'.cell? ⟨wk0.heap.size, 0, none⟩ = some (.slice C0 p0 e0) ∧ w'.cell? ⟨wk0.heap.size, 1, none⟩ = some (.slice D0 q0 f0) ∧ w'.cell? ⟨wk1.heap.size, 0, none⟩ = some (.int .i64 a.start) ∧ w'.cell? ⟨wk1.heap.size, 1, none⟩ = some (.slice C1 p1 e1) ∧ w'.cell? ⟨wk1.heap.size, 2, none⟩ = some (.slice D1 q1 f1) ∧ w'.cell? ⟨wk2.heap.size, 0, none⟩ = some (.int .i64 k.1) ∧ w'.cell? ⟨wk2.heap.size, 1, none⟩ = some (.slice C2 p2 e2))
    (first | (exact ⟨(Below.refl _ _).drew, Nat.le_refl _, y0_0, y0_1, y1_0, y1_1, y1_2, y2_0, y2_1, y3_0, y3_1, y4_0, y4_1, y4_2, y5_0, y5_1⟩) | (exact hold14 l0 l0 l1 l1 l1 l2 l2 l3 l3 l4 l4 l4 l5 l5 (by assumption) (by assumption)))
    (first | (go_at_call 45; refine (toWalk_any _ k _ (hvo2.keep (below_trans hb (hold_below (by assumption)))) ha2).mono ?_; rintro e wd2 ⟨vd2, rfl, hod2, hbd2⟩) | (go_at_call 47; refine (eqWalk_same _ _ k _ ((hx2.view.all hx2s).keep (hold_below (by assumption))) (hod2.view.all (Nat.le_refl _))).mono ?_; rintro e we2 ⟨rfl, hbe2⟩))
  all_goals clear y0_0 y0_1 y1_0 y1_1 y1_2 y2_0 y2_1 y3_0 y3_1 y4_0 y4_1 y4_2 y5_0 y5_1
  all_goals (rename_i hh; obtain ⟨hbn, -, y0_0, y0_1, y1_0, y1_1, y1_2, y2_0, y2_1, y3_0, y3_1, y4_0, y4_1, y4_2, y5_0, y5_1⟩ := hh)
  all_goals replace l0 := Nat.lt_of_lt_of_le l0 hbn.size
  all_goals replace l1 := Nat.lt_of_lt_of_le l1 hbn.size
  all_goals replace l2 := Nat.lt_of_lt_of_le l2 hbn.size
  all_goals replace l3 := Nat.lt_of_lt_of_le l3 hbn.size
  all_goals replace l4 := Nat.lt_of_lt_of_le l4 hbn.size
  all_goals replace l5 := Nat.lt_of_lt_of_le l5 hbn.size
  all_goals replace hr := hr.below hbn hrs
  all_goals replace hrs := Nat.le_trans hrs hbn.size
  all_goals replace hx0 := hx0.below hbn hx0s
  all_goals replace hx0s := Nat.le_trans hx0s hbn.size
  all_goals replace hx1 := hx1.below hbn hx1s
  all_goals replace hx1s := Nat.le_trans hx1s hbn.size
  all_goals replace hx2 := hx2.below hbn hx2s
  all_goals replace hx2s := Nat.le_trans hx2s hbn.size
  all_goals replace hg := hg.below hbn hgs
  all_goals replace hgs := Nat.le_trans hgs hbn.size
  all_goals have z_we2 := hbn.size
  all_goals replace hb := below_trans hb hbn
  all_goals clear hbn
  all_goals clear hod2 hbd2 hbe2
  all_goals go_wp2_with fail
  all_goals (refine (markGraph_any _ _ _ g 1 _ hx0 hx0s (by omega) ha0 hc0 (by omega)).mono ?_; rintro e wm0 ⟨k0, rfl, hk0, hkm0, ho⟩)
  all_goals clear y3_0 y3_1 l3
  all_goals clear hx0 hx0s
  all_goals replace y0_0 := (ho.cell (p := ⟨w.heap.size, 0, none⟩) l0 (by simp only; omega)).trans y0_0
  all_goals replace y0_1 := (ho.cell (p := ⟨w.heap.size, 1, none⟩) l0 (by simp only; omega)).trans y0_1
  all_goals replace y1_0 := (ho.cell (p := ⟨w.heap.size + 1, 0, none⟩) l1 (by simp only; omega)).trans y1_0
  all_goals replace y1_1 := (ho.cell (p := ⟨w.heap.size + 1, 1, none⟩) l1 (by simp only; omega)).trans y1_1
  all_goals replace y1_2 := (ho.cell (p := ⟨w.heap.size + 1, 2, none⟩) l1 (by simp only; omega)).trans y1_2
  all_goals replace y2_0 := (ho.cell (p := ⟨w.heap.size + 1 + 1, 0, none⟩) l2 (by simp only; omega)).trans y2_0
  all_goals replace y2_1 := (ho.cell (p := ⟨w.heap.size + 1 + 1, 1, none⟩) l2 (by simp only; omega)).trans y2_1
  all_goals replace y4_0 := (ho.cell (p := ⟨wk1.heap.size, 0, none⟩) l4 (by simp only; omega)).trans y4_0
  all_goals replace y4_1 := (ho.cell (p := ⟨wk1.heap.size, 1, none⟩) l4 (by simp only; omega)).trans y4_1
  all_goals replace y4_2 := (ho.cell (p := ⟨wk1.heap.size, 2, none⟩) l4 (by simp only; omega)).trans y4_2
  all_goals replace y5_0 := (ho.cell (p := ⟨wk2.heap.size, 0, none⟩) l5 (by simp only; omega)).trans y5_0
  all_goals replace y5_1 := (ho.cell (p := ⟨wk2.heap.size, 1, none⟩) l5 (by simp only; omega)).trans y5_1
  all_goals replace l0 := Nat.lt_of_lt_of_le l0 ho.size
  all_goals replace l1 := Nat.lt_of_lt_of_le l1 ho.size
  all_goals replace l2 := Nat.lt_of_lt_of_le l2 ho.size
  all_goals replace l4 := Nat.lt_of_lt_of_le l4 ho.size
  all_goals replace l5 := Nat.lt_of_lt_of_le l5 ho.size
  all_goals replace hr := hr.only ho (by omega)
  all_goals replace hrs := Nat.le_trans hrs ho.size
  all_goals replace hx1 := hx1.only ho (by omega)
  all_goals replace hx1s := Nat.le_trans hx1s ho.size
  all_goals replace hx2 := hx2.only ho (by omega)
  all_goals replace hx2s := Nat.le_trans hx2s ho.size
  all_goals replace hg := hg.only ho (by omega)
  all_goals replace hgs := Nat.le_trans hgs ho.size
  all_goals have z_wm0 := ho.size
  all_goals replace hb := hb.trans (ho.below (by omega) (by omega))
  all_goals clear ho
  all_goals go_wp2_with fail
  all_goals (refine (markAutomaton_any _ _ _ a k0 _ hx1 hx1s (by omega) ha1 hc1 he1 (by omega)).mono ?_; rintro e wm1 ⟨k1, rfl, hk1, hkm1, ho⟩)
  all_goals clear y4_0 y4_1 y4_2 l4
  all_goals clear hx1 hx1s
  all_goals replace y0_0 := (ho.cell (p := ⟨w.heap.size, 0, none⟩) l0 (by simp only; omega)).trans y0_0
  all_goals replace y0_1 := (ho.cell (p := ⟨w.heap.size, 1, none⟩) l0 (by simp only; omega)).trans y0_1
  all_goals replace y1_0 := (ho.cell (p := ⟨w.heap.size + 1, 0, none⟩) l1 (by simp only; omega)).trans y1_0
  all_goals replace y1_1 := (ho.cell (p := ⟨w.heap.size + 1, 1, none⟩) l1 (by simp only; omega)).trans y1_1
  all_goals replace y1_2 := (ho.cell (p := ⟨w.heap.size + 1, 2, none⟩) l1 (by simp only; omega)).trans y1_2
  all_goals replace y2_0 := (ho.cell (p := ⟨w.heap.size + 1 + 1, 0, none⟩) l2 (by simp only; omega)).trans y2_0
  all_goals replace y2_1 := (ho.cell (p := ⟨w.heap.size + 1 + 1, 1, none⟩) l2 (by simp only; omega)).trans y2_1
  all_goals replace y5_0 := (ho.cell (p := ⟨wk2.heap.size, 0, none⟩) l5 (by simp only; omega)).trans y5_0
  all_goals replace y5_1 := (ho.cell (p := ⟨wk2.heap.size, 1, none⟩) l5 (by simp only; omega)).trans y5_1
  all_goals replace l0 := Nat.lt_of_lt_of_le l0 ho.size
  all_goals replace l1 := Nat.lt_of_lt_of_le l1 ho.size
  all_goals replace l2 := Nat.lt_of_lt_of_le l2 ho.size
  all_goals replace l5 := Nat.lt_of_lt_of_le l5 ho.size
  all_goals replace hr := hr.only ho (by omega)
  all_goals replace hrs := Nat.le_trans hrs ho.size
  all_goals replace hx2 := hx2.only ho (by omega)
  all_goals replace hx2s := Nat.le_trans hx2s ho.size
  all_goals replace hg := hg.only ho (by omega)
  all_goals replace hgs := Nat.le_trans hgs ho.size
  all_goals have z_wm1 := ho.size
  all_goals replace hb := hb.trans (ho.below (by omega) (by omega))
  all_goals clear ho
  all_goals go_wp2_with fail
  all_goals (refine (markWalk_wide _ _ _ k k1 _ hx2 hx2s (by omega) ha2 (by omega)).mono ?_; rintro e wm2 ⟨rfl, hxm, ho⟩)
  all_goals clear y5_0 y5_1 l5
  all_goals clear hxm
  all_goals clear hx2 hx2s
  all_goals replace y0_0 := (ho.cell (p := ⟨w.heap.size, 0, none⟩) l0 (by simp only; omega)).trans y0_0
  all_goals replace y0_1 := (ho.cell (p := ⟨w.heap.size, 1, none⟩) l0 (by simp only; omega)).trans y0_1
  all_goals replace y1_0 := (ho.cell (p := ⟨w.heap.size + 1, 0, none⟩) l1 (by simp only; omega)).trans y1_0
  all_goals replace y1_1 := (ho.cell (p := ⟨w.heap.size + 1, 1, none⟩) l1 (by simp only; omega)).trans y1_1
  all_goals replace y1_2 := (ho.cell (p := ⟨w.heap.size + 1, 2, none⟩) l1 (by simp only; omega)).trans y1_2
  all_goals replace y2_0 := (ho.cell (p := ⟨w.heap.size + 1 + 1, 0, none⟩) l2 (by simp only; omega)).trans y2_0
  all_goals replace y2_1 := (ho.cell (p := ⟨w.heap.size + 1 + 1, 1, none⟩) l2 (by simp only; omega)).trans y2_1
  all_goals replace l0 := Nat.lt_of_lt_of_le l0 ho.size
  all_goals replace l1 := Nat.lt_of_lt_of_le l1 ho.size
  all_goals replace l2 := Nat.lt_of_lt_of_le l2 ho.size
  all_goals replace hr := hr.only ho (by omega)
  all_goals replace hrs := Nat.le_trans hrs ho.size
  all_goals replace hg := hg.only ho (by omega)
  all_goals replace hgs := Nat.le_trans hgs ho.size
  all_goals have z_wm2 := ho.size
  all_goals replace hb := hb.trans (ho.below (by omega) (by omega))
  all_goals clear ho
  all_goals obtain ⟨k2, hk2⟩ : ∃ k2 : Int, k2 = k1 + 2 * ((k.2.length : Nat) : Int) := ⟨_, rfl⟩
  all_goals rw [← hk2]
  all_goals have hkm2 : 0 ≤ k2 ∧ k2 ≤ k1 + 4194304 := by omega
  all_goals clear hk2
  all_goals have hkd : decide (k2 < 0) = false := by simp; omega
  all_goals go_wp2_with fail
  all_goals clear hkd hkm2 hk1 hkm1 hk0 hkm0
  all_goals (refine (eqIntSS_same _ _ (statesL g a k) _ (hg.view.all hgs) (hr.view.all hrs)).mono ?_; rintro e wq1 ⟨rfl, hbn⟩)
  all_goals replace y0_0 := kcell hbn y0_0
  all_goals replace y0_1 := kcell hbn y0_1
  all_goals replace y1_0 := kcell hbn y1_0
  all_goals replace y1_1 := kcell hbn y1_1
  all_goals replace y1_2 := kcell hbn y1_2
  all_goals replace y2_0 := kcell hbn y2_0
  all_goals replace y2_1 := kcell hbn y2_1
  all_goals replace l0 := Nat.lt_of_lt_of_le l0 hbn.size
  all_goals replace l1 := Nat.lt_of_lt_of_le l1 hbn.size
  all_goals replace l2 := Nat.lt_of_lt_of_le l2 hbn.size
  all_goals replace hr := hr.below hbn hrs
  all_goals replace hrs := Nat.le_trans hrs hbn.size
  all_goals replace hg := hg.below hbn hgs
  all_goals replace hgs := Nat.le_trans hgs hbn.size
  all_goals have z_wq1 := hbn.size
  all_goals replace hb := below_trans hb hbn
  all_goals clear hbn
  all_goals go_wp2_with fail
  all_goals (refine (markNS_any _ _ _ (statesL g a k) 1 _ hg (by omega) (by omega) hgs).mono ?_; rintro e wmg ⟨rfl, hgm, ho⟩)
  all_goals clear hg
  all_goals have hg := hgm
  all_goals clear hgm
  all_goals replace y0_0 := (ho.cell (p := ⟨w.heap.size, 0, none⟩) l0 (by simp only; omega)).trans y0_0
  all_goals replace y0_1 := (ho.cell (p := ⟨w.heap.size, 1, none⟩) l0 (by simp only; omega)).trans y0_1
  all_goals replace y1_0 := (ho.cell (p := ⟨w.heap.size + 1, 0, none⟩) l1 (by simp only; omega)).trans y1_0
  all_goals replace y1_1 := (ho.cell (p := ⟨w.heap.size + 1, 1, none⟩) l1 (by simp only; omega)).trans y1_1
  all_goals replace y1_2 := (ho.cell (p := ⟨w.heap.size + 1, 2, none⟩) l1 (by simp only; omega)).trans y1_2
  all_goals replace y2_0 := (ho.cell (p := ⟨w.heap.size + 1 + 1, 0, none⟩) l2 (by simp only; omega)).trans y2_0
  all_goals replace y2_1 := (ho.cell (p := ⟨w.heap.size + 1 + 1, 1, none⟩) l2 (by simp only; omega)).trans y2_1
  all_goals replace l0 := Nat.lt_of_lt_of_le l0 ho.size
  all_goals replace l1 := Nat.lt_of_lt_of_le l1 ho.size
  all_goals replace l2 := Nat.lt_of_lt_of_le l2 ho.size
  all_goals replace hr := hr.only ho (by omega)
  all_goals replace hrs := Nat.le_trans hrs ho.size
  all_goals replace hgs := Nat.le_trans hgs ho.size
  all_goals have z_wmg := ho.size
  all_goals replace hb := hb.trans (ho.below (by omega) (by omega))
  all_goals clear ho
  all_goals go_wp2_with fail
  all_goals (refine (heldIntSS_any _ (statesL g a k) 1 _ (hg.view.all hgs) (by omega) (by omega)).mono ?_; rintro e wh0 ⟨rfl, hbn⟩)
  all_goals replace y0_0 := kcell hbn y0_0
  all_goals replace y0_1 := kcell hbn y0_1
  all_goals replace y1_0 := kcell hbn y1_0
  all_goals replace y1_1 := kcell hbn y1_1
  all_goals replace y1_2 := kcell hbn y1_2
  all_goals replace y2_0 := kcell hbn y2_0
  all_goals replace y2_1 := kcell hbn y2_1
  all_goals replace l0 := Nat.lt_of_lt_of_le l0 hbn.size
  all_goals replace l1 := Nat.lt_of_lt_of_le l1 hbn.size
  all_goals replace l2 := Nat.lt_of_lt_of_le l2 hbn.size
  all_goals replace hr := hr.below hbn hrs
  all_goals replace hrs := Nat.le_trans hrs hbn.size
  all_goals replace hg := hg.below hbn hgs
  all_goals replace hgs := Nat.le_trans hgs hbn.size
  all_goals have z_wh0 := hbn.size
  all_goals replace hb := below_trans hb hbn
  all_goals clear hbn
  all_goals have t0 : decide (1 + (sumLen (statesL g a k) : Int) < 0) = false := by simp; omega
  all_goals have t1 : (1 + (sumLen (statesL g a k) : Int) != 1 + (sumLen (statesL g a k) : Int)) = false := by simp
  all_goals go_wp2_with fail
  all_goals clear t0 t1
  all_goals go_region_held3 (fun w' => Below wh0.heap.size wh0 w' ∧ wh0.heap.size ≤ w'.heap.size ∧ w'.cell? ⟨w.heap.size, 0, none⟩ = some (.slice A0 n0 c0) ∧ w'.cell? ⟨w.heap.size, 1, none⟩ = some (.slice B0 m0 d0) ∧ w'.cell? ⟨w.heap.size + 1, 0, none⟩ = some (.int .i64 a.start) ∧ w'.cell? ⟨w.heap.size + 1, 1, none⟩ = some (.slice A1 n1 c1) ∧ w'.cell? ⟨w.heap.size + 1, 2, none⟩ = some (.slice B1 m1 d1) ∧ w'.cell? ⟨w.heap.size + 1 + 1, 0, none⟩ = some (.int .i64 k.1) ∧ w'.cell? ⟨w.heap.size + 1 + 1, 1, none⟩ = some (.slice A2 n2 c2))
    (first | (exact ⟨(Below.refl _ _).drew, Nat.le_refl _, y0_0, y0_1, y1_0, y1_1, y1_2, y2_0, y2_1⟩) | (exact hold7 l0 l0 l1 l1 l1 l2 l2 (by assumption) (by assumption)))
    (first | (go_at_call 18; refine (toGraph_any _ g _ (hvo0.keep (below_trans hb (hold_below (by assumption)))) ha0 hc0).mono ?_; rintro e wc0b ⟨vc0b, rfl, hoc0b, hbc0b⟩) | (go_at_call 19; refine (toAutomaton_any _ a _ (hvo1.keep (below_trans hb (hold_below (by assumption)))) ha1 hc1 HD1.out).mono ?_; rintro e wc1b ⟨vc1b, rfl, hoc1b, hbc1b⟩) | (go_at_call 45; refine (toWalk_any _ k _ (hvo2.keep (below_trans hb (hold_below (by assumption)))) ha2).mono ?_; rintro e wc2b ⟨vc2b, rfl, hoc2b, hbc2b⟩) | (go_at_call 46; refine (nso_of (implStatesAlong vc0b vc1b vc2b g a k _ (by first | exact (hoc0b.view.all (Nat.le_refl _)) | exact ((hoc0b.view.all (Nat.le_refl _)).keep hbc1b) | exact ((hoc0b.view.all (Nat.le_refl _)).keep hbc2b) | exact (((hoc0b.view.all (Nat.le_refl _)).keep hbc1b).keep hbc2b) | exact (((hoc0b.view.all (Nat.le_refl _)).keep hbc2b).keep hbc1b)) (by first | exact (hoc1b.view.all (Nat.le_refl _)) | exact ((hoc1b.view.all (Nat.le_refl _)).keep hbc0b) | exact ((hoc1b.view.all (Nat.le_refl _)).keep hbc2b) | exact (((hoc1b.view.all (Nat.le_refl _)).keep hbc0b).keep hbc2b) | exact (((hoc1b.view.all (Nat.le_refl _)).keep hbc2b).keep hbc0b)) (by first | exact (hoc2b.view.all (Nat.le_refl _)) | exact ((hoc2b.view.all (Nat.le_refl _)).keep hbc0b) | exact ((hoc2b.view.all (Nat.le_refl _)).keep hbc1b) | exact (((hoc2b.view.all (Nat.le_refl _)).keep hbc0b).keep hbc1b) | exact (((hoc2b.view.all (Nat.le_refl _)).keep hbc1b).keep hbc0b)))).mono ?_; rintro e wres2 ⟨vh, rfl, hoh, hbres2⟩))
  all_goals clear y0_0 y0_1 y1_0 y1_1 y1_2 y2_0 y2_1
  all_goals (rename_i hh; obtain ⟨hbn, -, y0_0, y0_1, y1_0, y1_1, y1_2, y2_0, y2_1⟩ := hh)
  all_goals replace l0 := Nat.lt_of_lt_of_le l0 hbn.size
  all_goals replace l1 := Nat.lt_of_lt_of_le l1 hbn.size
  all_goals replace l2 := Nat.lt_of_lt_of_le l2 hbn.size
  all_goals replace hr := hr.below hbn hrs
  all_goals replace hrs := Nat.le_trans hrs hbn.size
  all_goals replace hg := hg.below hbn hgs
  all_goals replace hgs := Nat.le_trans hgs hbn.size
  all_goals have z_wres2 := hbn.size
  all_goals replace hb := below_trans hb hbn
  all_goals clear hbn
  all_goals go_wp2_with fail
  all_goals (refine (eqIntSS_same _ _ (statesL g a k) _ (hoh.view.all (Nat.le_refl _)) (hr.view.all hrs)).mono ?_; rintro e wq2 ⟨rfl, hbn⟩)
  all_goals replace y0_0 := kcell hbn y0_0
  all_goals replace y0_1 := kcell hbn y0_1
  all_goals replace y1_0 := kcell hbn y1_0
  all_goals replace y1_1 := kcell hbn y1_1
  all_goals replace y1_2 := kcell hbn y1_2
  all_goals replace y2_0 := kcell hbn y2_0
  all_goals replace y2_1 := kcell hbn y2_1
  all_goals replace l0 := Nat.lt_of_lt_of_le l0 hbn.size
  all_goals replace l1 := Nat.lt_of_lt_of_le l1 hbn.size
  all_goals replace l2 := Nat.lt_of_lt_of_le l2 hbn.size
  all_goals replace hr := hr.below hbn hrs
  all_goals replace hrs := Nat.le_trans hrs hbn.size
  all_goals replace hg := hg.below hbn hgs
  all_goals replace hgs := Nat.le_trans hgs hbn.size
  all_goals have z_wq2 := hbn.size
  all_goals replace hb := below_trans hb hbn
  all_goals clear hbn
  all_goals go_wp2_with fail
  all_goals (refine (heldIntSS_any _ (statesL g a k) 1 _ (hg.view.all hgs) (by omega) (by omega)).mono ?_; rintro e wh1 ⟨rfl, hbn⟩)
  all_goals replace y0_0 := kcell hbn y0_0
  all_goals replace y0_1 := kcell hbn y0_1
  all_goals replace y1_0 := kcell hbn y1_0
  all_goals replace y1_1 := kcell hbn y1_1
  all_goals replace y1_2 := kcell hbn y1_2
  all_goals replace y2_0 := kcell hbn y2_0
  all_goals replace y2_1 := kcell hbn y2_1
  all_goals replace l0 := Nat.lt_of_lt_of_le l0 hbn.size
  all_goals replace l1 := Nat.lt_of_lt_of_le l1 hbn.size
  all_goals replace l2 := Nat.lt_of_lt_of_le l2 hbn.size
  all_goals replace hr := hr.below hbn hrs
  all_goals replace hrs := Nat.le_trans hrs hbn.size
  all_goals replace hg := hg.below hbn hgs
  all_goals replace hgs := Nat.le_trans hgs hbn.size
  all_goals have z_wh1 := hbn.size
  all_goals replace hb := below_trans hb hbn
  all_goals clear hbn
  all_goals have t0 : decide (1 + (sumLen (statesL g a k) : Int) < 0) = false := by simp; omega
  all_goals have t1 : (1 + (sumLen (statesL g a k) : Int) != 1 + (sumLen (statesL g a k) : Int)) = false := by simp
  all_goals go_wp2_with fail
  all_goals clear t0 t1
  all_goals go_ret
  all_goals exact ⟨rfl, hb⟩

end Go.Proofs.Ytajjolkpgfegfaa.fnExactStatesAlong

namespace Go.Proofs.Ytajjolkpgfegfaa.fnExactStatesAlong
set_option linter.unusedVariables false
set_option linter.unusedSimpArgs false
open Go.ChangeShapes Go.WideShapes Go.ChangeAt Go.RowKit
/-! ### The row -/
theorem own : ownKnob Try.prog.godebug = none := by kernel_rfl
theorem laidOut : laidOutB Try.prog = true := by kernel_rfl
set_option maxRecDepth 100000 in
theorem lifted (os : Os) (started : os.Started) (H : Type) (enc : TypeId × Value → H) :
    ReturnsInHanded {} Try.checked os 10 .any (Rows.fnExactStatesAlongSpec.pre6 enc Try.prog Try.f10 Rows.fnExactStatesAlongRow.domain false) (Rows.fnExactStatesAlongSpec.post enc Try.prog Try.f10 false true false false) := by
  refine returnsInHanded_of_change (C := Try.checked) own started (by kernel_rfl) Try.func10
    (ChangeSpec.witness6 (enc := enc) (C := Try.checked) false ⟨#[], #[.agg #[.slice none 0 0, .slice none 0 0], .agg #[.int .i64 0, .slice none 0 0, .slice none 0 0], .agg #[.int .i64 0, .slice none 0 0]], []⟩ 8 (by kernel_rfl) (by kernel_rfl) (by kernel_rfl) (by kernel_rfl)) ?_
  intro W base args ds gs before hval0 hW hcnd _
  have hval : ∀ (j : Nat) t v, Try.f10.params[j]? = some t → args[j]? = some v → Value.okWide Try.prog W .any base t v := hval0
  have hW' := hW
  obtain ⟨p, q, hA0, hV, rfl, hfz, hnd⟩ := hW
  have hA : DataW.TrodAll enc Try.prog W 0 (fun _ => true) true Try.f10.params.toList args.toList ds p := hA0
  rw [Try.params10] at hA hval
  obtain ⟨v0, vs0, d0, ds0, p0, q0, hargs, rfl, rfl, h0, r0⟩ := trodAll_cons hA
  obtain ⟨v1, vs1, d1, ds1, p1, q1, rfl, rfl, rfl, h1, r1⟩ := trodAll_cons r0
  obtain ⟨v2, vs2, d2, ds2, p2, q2, rfl, rfl, rfl, h2, r2⟩ := trodAll_cons r1
  obtain ⟨rfl, rfl, rfl⟩ := trodAll_nil r2
  obtain rfl : args = #[v0, v1, v2] := by cases args; simp_all
  obtain ⟨rfl, rfl⟩ := trodVars_none hV
  obtain ⟨a0, w0⟩ := openGraph (hval 0 25 v0 rfl rfl) h0
  obtain ⟨a1, w1⟩ := openAutomaton (hval 1 29 v1 rfl rfl) h1
  obtain ⟨a2, w2⟩ := openWalk (hval 2 57 v2 rfl rfl) h2
  refine (walk W v0 a0 w0 v1 a1 w1 v2 a2 w2).mono fun e W' ⟨he, hb⟩ => ?_
  subst he
  exact ⟨_, rfl, law_post laidOut (by kernel_rfl) rfl Try.underlying4 rfl rfl hW' hb⟩
theorem over : Rows.fnExactStatesAlongRow.holds Try.pinned (OpenSpec.ofChange Rows.fnExactStatesAlongSpec) :=
  OpenClaim.holds_of_wide 10 Try.f10 rfl rfl rfl rfl rfl rfl rfl ⟨rfl, rfl, rfl, rfl, rfl⟩ rfl rfl rfl rfl rfl (by kernel_rfl) Try.func10 (by unfold joinedFacts; rw [seat_mayEnter, seat_lifts, seat_laidOut, seat_mapsRowed]; kernel_rfl)
    (of_decide_eq_true (by kernel_rfl)) (by unfold Func.isWrapper; first | (rw [if_pos (by decide +kernel)]; kernel_rfl) | (rw [if_neg (by decide +kernel)]; exact ⟨rfl, rfl⟩))
    (fun os started H enc _ => lifted os started H enc)
theorem proved : Rows.FnExactStatesAlongSaid := over
end Go.Proofs.Ytajjolkpgfegfaa.fnExactStatesAlong

