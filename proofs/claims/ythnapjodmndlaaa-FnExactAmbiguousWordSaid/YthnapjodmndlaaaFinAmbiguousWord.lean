/- 'laws.FnExactAmbiguousWord' returns true for all arguments, without any condition: the program's AmbiguousWord equals the reference's, leaves its arguments alone, and its result shares no memory with them or with another result. -/
import Derived.Test.YthnapjodmndlaaaPartBGGGGECN
import Derived.Test.YthnapjodmndlaaaPartKIJKDOCI
import Derived.Test.YthnapjodmndlaaaPartLCJMOOFA
import Derived.Test.YthnapjodmndlaaaPartEJGNHGCK
import Derived.Test.YthnapjodmndlaaaPartAMIEOLJJ
import Derived.Deep.RegionHeld3
namespace Go.Proofs.Ythnapjodmndlaaa.fnExactAmbiguousWord
set_option linter.unusedVariables false
set_option linter.unusedSimpArgs false
open Go.ChangeShapes Go.WideShapes Go.ChangeAt Go.RowKit
attribute [local go_sem] ext_cell ext_frozen ext_lt ext_lt1 ext_lt2 ext_lt3 ltn2 ltn3 ltn13 lts1 lts2 lts3

set_option maxRecDepth 100000 in
set_option maxHeartbeats 8000000 in
theorem walk (w : World) (v0 : Value) (p : Pz) (hv0 : PzV 0 w.heap.size w v0 p) :
    Calls Try.prog 4 #[v0] w fun e w' => e = .returned (.bool true) ∧ Below w.heap.size w w' := by
  have hlen : (ambO p).length ≤ 3000 := ambO_len p
  have hvo0 := hv0
  obtain ⟨A0, n0, c0, B0, m0, d0, rfl⟩ := hv0.shape
  clear hv0
  have hb0 : Below w.heap.size w (w.alloc (.cells #[.slice A0 n0 c0, .int .i64 p.first, .int .i64 p.last, .slice B0 m0 d0, .bool p.nul] 24)) := (Below.refl _ _).alloc (Nat.le_refl _) _
  go_enter Try.func4, Try.ntmps4
  go_wp2_with fail
  refine (szPositions_any _ p 1048576 _ (hvo0.keep hb0) (by omega) (by omega)).mono ?_
  rintro e ws0 ⟨rfl, hbn⟩
  have bl0 := (Blk.new w _ _ w.heap.size rfl).keep hbn
  have l0 := bl0.lt
  have y0_0 : ws0.cell? ⟨w.heap.size, 0, none⟩ = some (.slice A0 n0 c0) := bl0.cell 0
  have y0_1 : ws0.cell? ⟨w.heap.size, 1, none⟩ = some (.int .i64 p.first) := bl0.cell 1
  have y0_2 : ws0.cell? ⟨w.heap.size, 2, none⟩ = some (.int .i64 p.last) := bl0.cell 2
  have y0_3 : ws0.cell? ⟨w.heap.size, 3, none⟩ = some (.slice B0 m0 d0) := bl0.cell 3
  have y0_4 : ws0.cell? ⟨w.heap.size, 4, none⟩ = some (.bool p.nul) := bl0.cell 4
  have hb := below_trans hb0 hbn
  clear bl0 hb0 hbn
  by_cases hz : (szPz p 1048576) < 0
  · have hzd : decide ((szPz p 1048576) < 0) = true := by simpa using hz
    clear hz
    go_wp2_with fail
    go_ret
    exact ⟨rfl, hb⟩
  have hzd : decide ((szPz p 1048576) < 0) = false := by simpa using hz
  obtain ⟨ha0, hc0, hz0, hzm⟩ := szPz_le p 1048576 hz
  have ha0 : p.lets.length ≤ 1048576 := by omega
  have hc0 : p.fol.length ≤ 1048576 := by omega
  generalize (szPz p 1048576) = z0 at hzd hz0 hzm ⊢
  clear hz
  have hzm0 : z0 ≤ 1048576 := by omega
  have hz00 := hz0
  clear hz0 hzm
  go_wp2_with fail
  clear hzd
  clear hzm0 hz00
  have zw : w.heap.size + 1 ≤ ws0.heap.size := by omega
  (refine (toPositions_any _ p _ (hvo0.keep hb) ha0 hc0).mono ?_; rintro e wc0a ⟨vc0a, rfl, hoc0a, hbn⟩)
  replace y0_0 := kcell hbn y0_0
  replace y0_1 := kcell hbn y0_1
  replace y0_2 := kcell hbn y0_2
  replace y0_3 := kcell hbn y0_3
  replace y0_4 := kcell hbn y0_4
  replace l0 := Nat.lt_of_lt_of_le l0 hbn.size
  have z_wc0a := hbn.size
  replace hb := below_trans hb hbn
  clear hbn
  go_wp2_with fail
  (refine (specAmb vc0a p _ (hoc0a.view.all (Nat.le_refl _))).mono ?_; rintro e wres ⟨vr, rfl, hor, hbn⟩)
  replace y0_0 := kcell hbn y0_0
  replace y0_1 := kcell hbn y0_1
  replace y0_2 := kcell hbn y0_2
  replace y0_3 := kcell hbn y0_3
  replace y0_4 := kcell hbn y0_4
  replace l0 := Nat.lt_of_lt_of_le l0 hbn.size
  have z_wres := hbn.size
  replace hb := below_trans hb hbn
  clear hbn
  have hr := hor
  have hrs : wres.heap.size ≤ wres.heap.size := Nat.le_refl _
  clear hor
  go_wp2_with fail
  (refine (toPositions_any _ p _ (hvo0.keep hb) ha0 hc0).mono ?_; rintro e wk0 ⟨vk0, rfl, hx0, hbn⟩)
  obtain ⟨C0, p0, e0, D0, q0, f0, rfl⟩ := hx0.view.shape
  replace y0_0 := kcell hbn y0_0
  replace y0_1 := kcell hbn y0_1
  replace y0_2 := kcell hbn y0_2
  replace y0_3 := kcell hbn y0_3
  replace y0_4 := kcell hbn y0_4
  replace l0 := Nat.lt_of_lt_of_le l0 hbn.size
  replace hr := hr.below hbn hrs
  replace hrs := Nat.le_trans hrs hbn.size
  have z_wk0 := hbn.size
  replace hb := below_trans hb hbn
  clear hbn
  have hx0s : wk0.heap.size ≤ wk0.heap.size := Nat.le_refl _
  go_wp2_with fail
  have bz := Blk.new wk0 27 #[.slice C0 p0 e0, .int .i64 p.first, .int .i64 p.last, .slice D0 q0 f0, .bool p.nul] wk0.heap.size rfl
  have hbn : Below wk0.heap.size wk0 (wk0.alloc (.cells #[.slice C0 p0 e0, .int .i64 p.first, .int .i64 p.last, .slice D0 q0 f0, .bool p.nul] 27)) := (Below.refl _ _).alloc (Nat.le_refl _) _
  generalize wk0.alloc (.cells #[.slice C0 p0 e0, .int .i64 p.first, .int .i64 p.last, .slice D0 q0 f0, .bool p.nul] 27) = wl0 at hbn bz ⊢
  replace y0_0 := kcell hbn y0_0
  replace y0_1 := kcell hbn y0_1
  replace y0_2 := kcell hbn y0_2
  replace y0_3 := kcell hbn y0_3
  replace y0_4 := kcell hbn y0_4
  replace l0 := Nat.lt_of_lt_of_le l0 hbn.size
  replace hr := hr.below hbn hrs
  replace hrs := Nat.le_trans hrs hbn.size
  replace hx0 := hx0.below hbn hx0s
  replace hx0s := Nat.le_trans hx0s hbn.size
  have z_wl0 := hbn.size
  replace hb := below_trans hb hbn
  clear hbn
  have l1 := bz.lt
  have y1_0 : wl0.cell? ⟨wk0.heap.size, 0, none⟩ = some (.slice C0 p0 e0) := bz.cell 0
  have y1_1 : wl0.cell? ⟨wk0.heap.size, 1, none⟩ = some (.int .i64 p.first) := bz.cell 1
  have y1_2 : wl0.cell? ⟨wk0.heap.size, 2, none⟩ = some (.int .i64 p.last) := bz.cell 2
  have y1_3 : wl0.cell? ⟨wk0.heap.size, 3, none⟩ = some (.slice D0 q0 f0) := bz.cell 3
  have y1_4 : wl0.cell? ⟨wk0.heap.size, 4, none⟩ = some (.bool p.nul) := bz.cell 4
  clear bz
  (refine (implAmb _ p _ (hx0.view.all hx0s)).mono ?_; rintro e wg ⟨vg, rfl, hg, hbn⟩)
  replace y0_0 := kcell hbn y0_0
  replace y0_1 := kcell hbn y0_1
  replace y0_2 := kcell hbn y0_2
  replace y0_3 := kcell hbn y0_3
  replace y0_4 := kcell hbn y0_4
  replace y1_0 := kcell hbn y1_0
  replace y1_1 := kcell hbn y1_1
  replace y1_2 := kcell hbn y1_2
  replace y1_3 := kcell hbn y1_3
  replace y1_4 := kcell hbn y1_4
  replace l0 := Nat.lt_of_lt_of_le l0 hbn.size
  replace l1 := Nat.lt_of_lt_of_le l1 hbn.size
  replace hr := hr.below hbn hrs
  replace hrs := Nat.le_trans hrs hbn.size
  replace hx0 := hx0.below hbn hx0s
  replace hx0s := Nat.le_trans hx0s hbn.size
  have z_wg := hbn.size
  replace hb := below_trans hb hbn
  clear hbn
  have hgs : wg.heap.size ≤ wg.heap.size := Nat.le_refl _
  go_wp2_with fail
  (refine (eqIntS_same _ _ (ambO p) _ ((hg.sl cI_len).all hgs) ((hr.sl cI_len).all hrs)).mono ?_; rintro e wq0 ⟨rfl, hbn⟩)
  replace y0_0 := kcell hbn y0_0
  replace y0_1 := kcell hbn y0_1
  replace y0_2 := kcell hbn y0_2
  replace y0_3 := kcell hbn y0_3
  replace y0_4 := kcell hbn y0_4
  replace y1_0 := kcell hbn y1_0
  replace y1_1 := kcell hbn y1_1
  replace y1_2 := kcell hbn y1_2
  replace y1_3 := kcell hbn y1_3
  replace y1_4 := kcell hbn y1_4
  replace l0 := Nat.lt_of_lt_of_le l0 hbn.size
  replace l1 := Nat.lt_of_lt_of_le l1 hbn.size
  replace hr := hr.below hbn hrs
  replace hrs := Nat.le_trans hrs hbn.size
  replace hx0 := hx0.below hbn hx0s
  replace hx0s := Nat.le_trans hx0s hbn.size
  replace hg := hg.below hbn hgs
  replace hgs := Nat.le_trans hgs hbn.size
  have z_wq0 := hbn.size
  replace hb := below_trans hb hbn
  clear hbn
  go_wp2_with fail
  go_region_held3 (fun w' => Below wq0.heap.size wq0 w' ∧ wq0.heap.size ≤ w'.heap.size ∧ w'.cell? ⟨w.heap.size, 0, none⟩ = some (.slice A0 n0 c0) ∧ w'.cell? ⟨w.heap.size, 1, none⟩ = some (.int .i64 p.first) ∧ w'.cell? ⟨w.heap.size, 2, none⟩ = some (.int .i64 p.last) ∧ w'.cell? ⟨w.heap.size, 3, none⟩ = some (.slice B0 m0 d0) ∧ w'.cell? ⟨w.heap.size, 4, none⟩ = some (.bool p.nul) ∧ w'.cell? ⟨wk0.heap.size, 0, none⟩ = some (.slice C0 p0 e0) ∧ w'.cell? ⟨wk0.heap.size, 1, none⟩ = some (.int .i64 p.first) ∧ w'.cell? ⟨wk0.heap.size, 2, none⟩ = some (.int .i64 p.last) ∧ w'.cell? ⟨wk0.heap.size, 3, none⟩ = some (.slice D0 q0 f0) ∧ w'.cell? ⟨wk0.heap.size, 4, none⟩ = some (.bool p.nul))
    (first | (exact ⟨(Below.refl _ _).drew, Nat.le_refl _, y0_0, y0_1, y0_2, y0_3, y0_4, y1_0, y1_1, y1_2, y1_3, y1_4⟩) | (exact hold10 l0 l0 l0 l0 l0 l1 l1 l1 l1 l1 (by assumption) (by assumption)))
    (first | (go_at_call 8; refine (toPositions_any _ p _ (hvo0.keep (below_trans hb (hold_below (by assumption)))) ha0 hc0).mono ?_; rintro e wd0 ⟨vd0, rfl, hod0, hbd0⟩) | (go_at_call 10; refine (eqPositions_same _ _ p _ ((hx0.view.all hx0s).keep (hold_below (by assumption))) (hod0.view.all (Nat.le_refl _))).mono ?_; rintro e we0 ⟨rfl, hbe0⟩))
  all_goals clear y0_0 y0_1 y0_2 y0_3 y0_4 y1_0 y1_1 y1_2 y1_3 y1_4
  all_goals (rename_i hh; obtain ⟨hbn, -, y0_0, y0_1, y0_2, y0_3, y0_4, y1_0, y1_1, y1_2, y1_3, y1_4⟩ := hh)
  all_goals replace l0 := Nat.lt_of_lt_of_le l0 hbn.size
  all_goals replace l1 := Nat.lt_of_lt_of_le l1 hbn.size
  all_goals replace hr := hr.below hbn hrs
  all_goals replace hrs := Nat.le_trans hrs hbn.size
  all_goals replace hx0 := hx0.below hbn hx0s
  all_goals replace hx0s := Nat.le_trans hx0s hbn.size
  all_goals replace hg := hg.below hbn hgs
  all_goals replace hgs := Nat.le_trans hgs hbn.size
  all_goals have z_we0 := hbn.size
  all_goals replace hb := below_trans hb hbn
  all_goals clear hbn
  all_goals clear hod0 hbd0 hbe0
  all_goals go_wp2_with fail
  all_goals (refine (markPositions_any _ _ _ p 1 _ hx0 hx0s (by omega) ha0 hc0 (by omega)).mono ?_; rintro e wm0 ⟨k0, rfl, hk0, hkm0, ho⟩)
  all_goals clear y1_0 y1_1 y1_2 y1_3 y1_4 l1
  all_goals clear hx0 hx0s
  all_goals replace y0_0 := (ho.cell (p := ⟨w.heap.size, 0, none⟩) l0 (by simp only; omega)).trans y0_0
  all_goals replace y0_1 := (ho.cell (p := ⟨w.heap.size, 1, none⟩) l0 (by simp only; omega)).trans y0_1
  all_goals replace y0_2 := (ho.cell (p := ⟨w.heap.size, 2, none⟩) l0 (by simp only; omega)).trans y0_2
  all_goals replace y0_3 := (ho.cell (p := ⟨w.heap.size, 3, none⟩) l0 (by simp only; omega)).trans y0_3
  all_goals replace y0_4 := (ho.cell (p := ⟨w.heap.size, 4, none⟩) l0 (by simp only; omega)).trans y0_4
  all_goals replace l0 := Nat.lt_of_lt_of_le l0 ho.size
  all_goals replace hr := hr.only ho (by omega)
  all_goals replace hrs := Nat.le_trans hrs ho.size
  all_goals replace hg := hg.only ho (by omega)
  all_goals replace hgs := Nat.le_trans hgs ho.size
  all_goals have z_wm0 := ho.size
  all_goals replace hb := hb.trans (ho.below (by omega) (by omega))
  all_goals clear ho
  all_goals have hkd : decide (k0 < 0) = false := by simp; omega
  all_goals go_wp2_with fail
  all_goals clear hkd hk0 hkm0
  all_goals (refine (eqIntS_same _ _ (ambO p) _ ((hg.sl cI_len).all hgs) ((hr.sl cI_len).all hrs)).mono ?_; rintro e wq1 ⟨rfl, hbn⟩)
  all_goals replace y0_0 := kcell hbn y0_0
  all_goals replace y0_1 := kcell hbn y0_1
  all_goals replace y0_2 := kcell hbn y0_2
  all_goals replace y0_3 := kcell hbn y0_3
  all_goals replace y0_4 := kcell hbn y0_4
  all_goals replace l0 := Nat.lt_of_lt_of_le l0 hbn.size
  all_goals replace hr := hr.below hbn hrs
  all_goals replace hrs := Nat.le_trans hrs hbn.size
  all_goals replace hg := hg.below hbn hgs
  all_goals replace hgs := Nat.le_trans hgs hbn.size
  all_goals have z_wq1 := hbn.size
  all_goals replace hb := below_trans hb hbn
  all_goals clear hbn
  all_goals go_wp2_with fail
  all_goals (refine (markIntS_any _ _ _ _ (ambO p) 1 _ hg (by omega) (by omega)).mono ?_; rintro e wmg ⟨rfl, hgm, ho⟩)
  all_goals clear hg
  all_goals have hg := hgm
  all_goals clear hgm
  all_goals replace y0_0 := (ho.cell (p := ⟨w.heap.size, 0, none⟩) l0 (by simp only; omega)).trans y0_0
  all_goals replace y0_1 := (ho.cell (p := ⟨w.heap.size, 1, none⟩) l0 (by simp only; omega)).trans y0_1
  all_goals replace y0_2 := (ho.cell (p := ⟨w.heap.size, 2, none⟩) l0 (by simp only; omega)).trans y0_2
  all_goals replace y0_3 := (ho.cell (p := ⟨w.heap.size, 3, none⟩) l0 (by simp only; omega)).trans y0_3
  all_goals replace y0_4 := (ho.cell (p := ⟨w.heap.size, 4, none⟩) l0 (by simp only; omega)).trans y0_4
  all_goals replace l0 := Nat.lt_of_lt_of_le l0 ho.size
  all_goals replace hr := hr.only ho (by omega)
  all_goals replace hrs := Nat.le_trans hrs ho.size
  all_goals replace hgs := Nat.le_trans hgs ho.size
  all_goals have z_wmg := ho.size
  all_goals replace hb := hb.trans (ho.below (by omega) (by omega))
  all_goals clear ho
  all_goals go_wp2_with fail
  all_goals (refine (heldIntS_any _ (ambO p).length 1 _ ((hg.sl cI_len).all hgs) (by omega) (by omega)).mono ?_; rintro e wh0 ⟨rfl, hbn⟩)
  all_goals replace y0_0 := kcell hbn y0_0
  all_goals replace y0_1 := kcell hbn y0_1
  all_goals replace y0_2 := kcell hbn y0_2
  all_goals replace y0_3 := kcell hbn y0_3
  all_goals replace y0_4 := kcell hbn y0_4
  all_goals replace l0 := Nat.lt_of_lt_of_le l0 hbn.size
  all_goals replace hr := hr.below hbn hrs
  all_goals replace hrs := Nat.le_trans hrs hbn.size
  all_goals replace hg := hg.below hbn hgs
  all_goals replace hgs := Nat.le_trans hgs hbn.size
  all_goals have z_wh0 := hbn.size
  all_goals replace hb := below_trans hb hbn
  all_goals clear hbn
  all_goals have t0 : decide (1 + ((ambO p).length : Int) < 0) = false := by simp; omega
  all_goals have t1 : (1 + ((ambO p).length : Int) != 1 + ((ambO p).length : Int)) = false := by simp
  all_goals go_wp2_with fail
  all_goals clear t0 t1
  all_goals (refine (toPositions_any _ p _ (hvo0.keep hb) ha0 hc0).mono ?_; rintro e wc0b ⟨vc0b, rfl, hoc0b, hbn⟩)
  all_goals replace y0_0 := kcell hbn y0_0
  all_goals replace y0_1 := kcell hbn y0_1
  all_goals replace y0_2 := kcell hbn y0_2
  all_goals replace y0_3 := kcell hbn y0_3
  all_goals replace y0_4 := kcell hbn y0_4
  all_goals replace l0 := Nat.lt_of_lt_of_le l0 hbn.size
  all_goals replace hr := hr.below hbn hrs
  all_goals replace hrs := Nat.le_trans hrs hbn.size
  all_goals replace hg := hg.below hbn hgs
  all_goals replace hgs := Nat.le_trans hgs hbn.size
  all_goals have z_wc0b := hbn.size
  all_goals replace hb := below_trans hb hbn
  all_goals clear hbn
  all_goals go_wp2_with fail
  all_goals (refine (implAmb vc0b p _ (hoc0b.view.all (Nat.le_refl _))).mono ?_; rintro e wres2 ⟨vh, rfl, hoh, hbn⟩)
  all_goals replace y0_0 := kcell hbn y0_0
  all_goals replace y0_1 := kcell hbn y0_1
  all_goals replace y0_2 := kcell hbn y0_2
  all_goals replace y0_3 := kcell hbn y0_3
  all_goals replace y0_4 := kcell hbn y0_4
  all_goals replace l0 := Nat.lt_of_lt_of_le l0 hbn.size
  all_goals replace hr := hr.below hbn hrs
  all_goals replace hrs := Nat.le_trans hrs hbn.size
  all_goals replace hg := hg.below hbn hgs
  all_goals replace hgs := Nat.le_trans hgs hbn.size
  all_goals have z_wres2 := hbn.size
  all_goals replace hb := below_trans hb hbn
  all_goals clear hbn
  all_goals go_wp2_with fail
  all_goals (refine (eqIntS_same _ _ (ambO p) _ ((hoh.sl cI_len).all (Nat.le_refl _)) ((hr.sl cI_len).all hrs)).mono ?_; rintro e wq2 ⟨rfl, hbn⟩)
  all_goals replace y0_0 := kcell hbn y0_0
  all_goals replace y0_1 := kcell hbn y0_1
  all_goals replace y0_2 := kcell hbn y0_2
  all_goals replace y0_3 := kcell hbn y0_3
  all_goals replace y0_4 := kcell hbn y0_4
  all_goals replace l0 := Nat.lt_of_lt_of_le l0 hbn.size
  all_goals replace hr := hr.below hbn hrs
  all_goals replace hrs := Nat.le_trans hrs hbn.size
  all_goals replace hg := hg.below hbn hgs
  all_goals replace hgs := Nat.le_trans hgs hbn.size
  all_goals have z_wq2 := hbn.size
  all_goals replace hb := below_trans hb hbn
  all_goals clear hbn
  all_goals go_wp2_with fail
  all_goals (refine (heldIntS_any _ (ambO p).length 1 _ ((hg.sl cI_len).all hgs) (by omega) (by omega)).mono ?_; rintro e wh1 ⟨rfl, hbn⟩)
  all_goals replace y0_0 := kcell hbn y0_0
  all_goals replace y0_1 := kcell hbn y0_1
  all_goals replace y0_2 := kcell hbn y0_2
  all_goals replace y0_3 := kcell hbn y0_3
  all_goals replace y0_4 := kcell hbn y0_4
  all_goals replace l0 := Nat.lt_of_lt_of_le l0 hbn.size
  all_goals replace hr := hr.below hbn hrs
  all_goals replace hrs := Nat.le_trans hrs hbn.size
  all_goals replace hg := hg.below hbn hgs
  all_goals replace hgs := Nat.le_trans hgs hbn.size
  all_goals have z_wh1 := hbn.size
  all_goals replace hb := below_trans hb hbn
  all_goals clear hbn
  all_goals have t0 : decide (1 + ((ambO p).length : Int) < 0) = false := by simp; omega
  all_goals have t1 : (1 + ((ambO p).length : Int) != 1 + ((ambO p).length : Int)) = false := by simp
  all_goals go_wp2_with fail
  all_goals clear t0 t1
  all_goals go_ret
  all_goals exact ⟨rfl, hb⟩

end Go.Proofs.Ythnapjodmndlaaa.fnExactAmbiguousWord

namespace Go.Proofs.Ythnapjodmndlaaa.fnExactAmbiguousWord
set_option linter.unusedVariables false
set_option linter.unusedSimpArgs false
open Go.ChangeShapes Go.WideShapes Go.ChangeAt Go.RowKit
/-! ### The row -/
theorem own : ownKnob Try.prog.godebug = none := by kernel_rfl
theorem laidOut : laidOutB Try.prog = true := by kernel_rfl
set_option maxRecDepth 100000 in
theorem lifted (os : Os) (started : os.Started) (H : Type) (enc : TypeId × Value → H) :
    ReturnsInHanded {} Try.checked os 4 .any (Rows.fnExactAmbiguousWordSpec.pre6 enc Try.prog Try.f4 Rows.fnExactAmbiguousWordRow.domain false) (Rows.fnExactAmbiguousWordSpec.post enc Try.prog Try.f4 false true false false) := by
  refine returnsInHanded_of_change (C := Try.checked) own started (by kernel_rfl) Try.func4
    (ChangeSpec.witness6 (enc := enc) (C := Try.checked) false ⟨#[], #[.agg #[.slice none 0 0, .int .i64 0, .int .i64 0, .slice none 0 0, .bool false]], []⟩ 8 (by kernel_rfl) (by kernel_rfl) (by kernel_rfl) (by kernel_rfl)) ?_
  intro W base args ds gs before hval0 hW hcnd _
  have hval : ∀ (j : Nat) t v, Try.f4.params[j]? = some t → args[j]? = some v → Value.okWide Try.prog W .any base t v := hval0
  have hW' := hW
  obtain ⟨p, q, hA0, hV, rfl, hfz, hnd⟩ := hW
  have hA : DataW.TrodAll enc Try.prog W 0 (fun _ => true) true Try.f4.params.toList args.toList ds p := hA0
  rw [Try.params4] at hA hval
  obtain ⟨v0, vs0, d0, ds0, p0, q0, hargs, rfl, rfl, h0, r0⟩ := trodAll_cons hA
  obtain ⟨rfl, rfl, rfl⟩ := trodAll_nil r0
  obtain rfl : args = #[v0] := by cases args; simp_all
  obtain ⟨rfl, rfl⟩ := trodVars_none hV
  obtain ⟨a0, w0⟩ := openPositions (hval 0 24 v0 rfl rfl) h0
  refine (walk W v0 a0 w0).mono fun e W' ⟨he, hb⟩ => ?_
  subst he
  exact ⟨_, rfl, law_post laidOut (by kernel_rfl) rfl Try.underlying4 rfl rfl hW' hb⟩
theorem unf : Try.pinned.checked.prog.unfollowed 4 = true := by kernel_rfl
theorem inpl : Try.pinned.checked.prog.inPlace 4 = [] := by kernel_rfl
theorem vnam : Try.pinned.checked.prog.varsNamed 4 = [] := by kernel_rfl
theorem rec_ : Try.pinned.checked.prog.recurses 4 = true := by rw [Program.recurses, unf, Bool.true_or]
theorem over : Rows.fnExactAmbiguousWordRow.holds Try.pinned (OpenSpec.ofChange Rows.fnExactAmbiguousWordSpec) :=
  OpenClaim.holds_of_wide 4 Try.f4 rfl rfl rfl rfl rfl rfl rfl ⟨rfl, rfl, rfl, rfl, rfl⟩ rfl rfl rfl rfl rfl (by kernel_rfl) Try.func4 (by unfold joinedFacts; rw [seat_mayEnter, seat_lifts, seat_laidOut, seat_mapsRowed, unf, rec_, inpl, vnam]; kernel_rfl)
    (of_decide_eq_true (by kernel_rfl)) (by unfold Func.isWrapper; first | (rw [if_pos (by decide +kernel)]; kernel_rfl) | (rw [if_neg (by decide +kernel)]; exact ⟨rfl, rfl⟩))
    (fun os started H enc _ => lifted os started H enc)
theorem proved : Rows.FnExactAmbiguousWordSaid := over
end Go.Proofs.Ythnapjodmndlaaa.fnExactAmbiguousWord

