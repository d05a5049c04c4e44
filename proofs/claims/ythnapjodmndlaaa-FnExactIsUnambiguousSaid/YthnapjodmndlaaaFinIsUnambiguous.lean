/- 'laws.FnExactIsUnambiguous' returns true for all arguments, without any condition: the program's IsUnambiguous equals the reference's and leaves its arguments alone. -/
import Derived.Test.YthnapjodmndlaaaPartBGGGGECN
import Derived.Test.YthnapjodmndlaaaPartKIJKDOCI
import Derived.Test.YthnapjodmndlaaaPartLCJMOOFA
import Derived.Test.YthnapjodmndlaaaPartEJGNHGCK
import Derived.Test.YthnapjodmndlaaaPartAMIEOLJJ
import Derived.Deep.RegionHeld3
namespace Go.Proofs.Ythnapjodmndlaaa.fnExactIsUnambiguous
set_option linter.unusedVariables false
set_option linter.unusedSimpArgs false
open Go.ChangeShapes Go.WideShapes Go.ChangeAt Go.RowKit
attribute [local go_sem] ext_cell ext_frozen ext_lt ext_lt1 ext_lt2 ext_lt3 ltn2 ltn3 ltn13 lts1 lts2 lts3

set_option maxRecDepth 100000 in
set_option maxHeartbeats 8000000 in
theorem walk (w : World) (v0 : Value) (p : Pz) (hv0 : PzV 0 w.heap.size w v0 p) :
    Calls Try.prog 3 #[v0] w fun e w' => e = .returned (.bool true) ∧ Below w.heap.size w w' := by
  have hvo0 := hv0
  obtain ⟨A0, n0, c0, B0, m0, d0, rfl⟩ := hv0.shape
  clear hv0
  have hb0 : Below w.heap.size w (w.alloc (.cells #[.slice A0 n0 c0, .int .i64 p.first, .int .i64 p.last, .slice B0 m0 d0, .bool p.nul] 24)) := (Below.refl _ _).alloc (Nat.le_refl _) _
  go_enter Try.func3, Try.ntmps3
  go_wp2_with fail
  refine (szPositions_any _ p 1048576 _ (hvo0.keep hb0) (by omega) (by omega)).mono ?_
  rintro e ws0 ⟨rfl, hbn⟩
  have bl0 := (Blk.new w _ _ w.heap.size rfl).keep hbn
  have l0 := bl0.lt
  have y0_0 : ws0.cell? ⟨w.heap.size, 0, none⟩ = some (.slice A0 n0 c0) := bl0.cell 0
  have y0_1 : ws0.cell? ⟨w.heap.size, 1, none⟩ = some (.int .i64 p.first) := bl0.cell 1
  have y0_2 : ws0.cell? ⟨w.heap.size, 2, none⟩ = some (.int .i64 p.last) := bl0.cell 2
  have y0_3 : ws0.cell? ⟨w.heap.size, 3, none⟩ = some (.slice B0 m0 d0) := bl0.cell 3
  have y0_4 : ws0.cell? ⟨w.heap.size, 4, none⟩ = some (.bool p.nul) := bl0.cell 4
  have hb := below_trans hb0 hbn
  clear bl0 hb0 hbn
  by_cases hz : (szPz p 1048576) < 0
  · have hzd : decide ((szPz p 1048576) < 0) = true := by simpa using hz
    clear hz
    go_wp2_with fail
    go_ret
    exact ⟨rfl, hb⟩
  have hzd : decide ((szPz p 1048576) < 0) = false := by simpa using hz
  obtain ⟨ha0, hc0, hz0, hzm⟩ := szPz_le p 1048576 hz
  have ha0 : p.lets.length ≤ 1048576 := by omega
  have hc0 : p.fol.length ≤ 1048576 := by omega
  generalize (szPz p 1048576) = z0 at hzd hz0 hzm ⊢
  clear hz
  have hzm0 : z0 ≤ 1048576 := by omega
  have hz00 := hz0
  clear hz0 hzm
  go_wp2_with fail
  clear hzd
  clear hzm0 hz00
  have zw : w.heap.size + 1 ≤ ws0.heap.size := by omega
  (refine (toPositions_any _ p _ (hvo0.keep hb) ha0 hc0).mono ?_; rintro e wc0a ⟨vc0a, rfl, hoc0a, hbn⟩)
  replace y0_0 := kcell hbn y0_0
  replace y0_1 := kcell hbn y0_1
  replace y0_2 := kcell hbn y0_2
  replace y0_3 := kcell hbn y0_3
  replace y0_4 := kcell hbn y0_4
  replace l0 := Nat.lt_of_lt_of_le l0 hbn.size
  have z_wc0a := hbn.size
  replace hb := below_trans hb hbn
  clear hbn
  go_wp2_with fail
  (refine (specUnam vc0a p _ (hoc0a.view.all (Nat.le_refl _))).mono ?_; rintro e wres ⟨rfl, hbn⟩)
  replace y0_0 := kcell hbn y0_0
  replace y0_1 := kcell hbn y0_1
  replace y0_2 := kcell hbn y0_2
  replace y0_3 := kcell hbn y0_3
  replace y0_4 := kcell hbn y0_4
  replace l0 := Nat.lt_of_lt_of_le l0 hbn.size
  have z_wres := hbn.size
  replace hb := below_trans hb hbn
  clear hbn
  go_wp2_with fail
  (refine (toPositions_any _ p _ (hvo0.keep hb) ha0 hc0).mono ?_; rintro e wk0 ⟨vk0, rfl, hx0, hbn⟩)
  obtain ⟨C0, p0, e0, D0, q0, f0, rfl⟩ := hx0.view.shape
  replace y0_0 := kcell hbn y0_0
  replace y0_1 := kcell hbn y0_1
  replace y0_2 := kcell hbn y0_2
  replace y0_3 := kcell hbn y0_3
  replace y0_4 := kcell hbn y0_4
  replace l0 := Nat.lt_of_lt_of_le l0 hbn.size
  have z_wk0 := hbn.size
  replace hb := below_trans hb hbn
  clear hbn
  have hx0s : wk0.heap.size ≤ wk0.heap.size := Nat.le_refl _
  go_wp2_with fail
  have bz := Blk.new wk0 27 #[.slice C0 p0 e0, .int .i64 p.first, .int .i64 p.last, .slice D0 q0 f0, .bool p.nul] wk0.heap.size rfl
  have hbn : Below wk0.heap.size wk0 (wk0.alloc (.cells #[.slice C0 p0 e0, .int .i64 p.first, .int .i64 p.last, .slice D0 q0 f0, .bool p.nul] 27)) := (Below.refl _ _).alloc (Nat.le_refl _) _
  generalize wk0.alloc (.cells #[.slice C0 p0 e0, .int .i64 p.first, .int .i64 p.last, .slice D0 q0 f0, .bool p.nul] 27) = wl0 at hbn bz ⊢
  replace y0_0 := kcell hbn y0_0
  replace y0_1 := kcell hbn y0_1
  replace y0_2 := kcell hbn y0_2
  replace y0_3 := kcell hbn y0_3
  replace y0_4 := kcell hbn y0_4
  replace l0 := Nat.lt_of_lt_of_le l0 hbn.size
  replace hx0 := hx0.below hbn hx0s
  replace hx0s := Nat.le_trans hx0s hbn.size
  have z_wl0 := hbn.size
  replace hb := below_trans hb hbn
  clear hbn
  have l1 := bz.lt
  have y1_0 : wl0.cell? ⟨wk0.heap.size, 0, none⟩ = some (.slice C0 p0 e0) := bz.cell 0
  have y1_1 : wl0.cell? ⟨wk0.heap.size, 1, none⟩ = some (.int .i64 p.first) := bz.cell 1
  have y1_2 : wl0.cell? ⟨wk0.heap.size, 2, none⟩ = some (.int .i64 p.last) := bz.cell 2
  have y1_3 : wl0.cell? ⟨wk0.heap.size, 3, none⟩ = some (.slice D0 q0 f0) := bz.cell 3
  have y1_4 : wl0.cell? ⟨wk0.heap.size, 4, none⟩ = some (.bool p.nul) := bz.cell 4
  clear bz
  (refine (implUnam _ p _ (hx0.view.all hx0s)).mono ?_; rintro e wg ⟨rfl, hbn⟩)
  replace y0_0 := kcell hbn y0_0
  replace y0_1 := kcell hbn y0_1
  replace y0_2 := kcell hbn y0_2
  replace y0_3 := kcell hbn y0_3
  replace y0_4 := kcell hbn y0_4
  replace y1_0 := kcell hbn y1_0
  replace y1_1 := kcell hbn y1_1
  replace y1_2 := kcell hbn y1_2
  replace y1_3 := kcell hbn y1_3
  replace y1_4 := kcell hbn y1_4
  replace l0 := Nat.lt_of_lt_of_le l0 hbn.size
  replace l1 := Nat.lt_of_lt_of_le l1 hbn.size
  replace hx0 := hx0.below hbn hx0s
  replace hx0s := Nat.le_trans hx0s hbn.size
  have z_wg := hbn.size
  replace hb := below_trans hb hbn
  clear hbn
  generalize unamT p = bb
  go_wp2_with fail
  go_region_held3 (fun w' => Below wg.heap.size wg w' ∧ wg.heap.size ≤ w'.heap.size ∧ w'.cell? ⟨w.heap.size, 0, none⟩ = some (.slice A0 n0 c0) ∧ w'.cell? ⟨w.heap.size, 1, none⟩ = some (.int .i64 p.first) ∧ w'.cell? ⟨w.heap.size, 2, none⟩ = some (.int .i64 p.last) ∧ w'.cell? ⟨w.heap.size, 3, none⟩ = some (.slice B0 m0 d0) ∧ w'.cell? ⟨w.heap.size, 4, none⟩ = some (.bool p.nul) ∧ w'.cell? ⟨wk0.heap.size, 0, none⟩ = some (.slice C0 p0 e0) ∧ w'.cell? ⟨wk0.heap.size, 1, none⟩ = some (.int .i64 p.first) ∧ w'.cell? ⟨wk0.heap.size, 2, none⟩ = some (.int .i64 p.last) ∧ w'.cell? ⟨wk0.heap.size, 3, none⟩ = some (.slice D0 q0 f0) ∧ w'.cell? ⟨wk0.heap.size, 4, none⟩ = some (.bool p.nul))
    (first | (exact ⟨(Below.refl _ _).drew, Nat.le_refl _, y0_0, y0_1, y0_2, y0_3, y0_4, y1_0, y1_1, y1_2, y1_3, y1_4⟩) | (exact hold10 l0 l0 l0 l0 l0 l1 l1 l1 l1 l1 (by assumption) (by assumption)))
    (first | (go_at_call 8; refine (toPositions_any _ p _ (hvo0.keep (below_trans hb (hold_below (by assumption)))) ha0 hc0).mono ?_; rintro e wd0 ⟨vd0, rfl, hod0, hbd0⟩) | (go_at_call 10; refine (eqPositions_same _ _ p _ ((hx0.view.all hx0s).keep (hold_below (by assumption))) (hod0.view.all (Nat.le_refl _))).mono ?_; rintro e we0 ⟨rfl, hbe0⟩))
  all_goals clear y0_0 y0_1 y0_2 y0_3 y0_4 y1_0 y1_1 y1_2 y1_3 y1_4
  all_goals (rename_i hh; obtain ⟨hbn, -, y0_0, y0_1, y0_2, y0_3, y0_4, y1_0, y1_1, y1_2, y1_3, y1_4⟩ := hh)
  all_goals replace l0 := Nat.lt_of_lt_of_le l0 hbn.size
  all_goals replace l1 := Nat.lt_of_lt_of_le l1 hbn.size
  all_goals replace hx0 := hx0.below hbn hx0s
  all_goals replace hx0s := Nat.le_trans hx0s hbn.size
  all_goals have z_we0 := hbn.size
  all_goals replace hb := below_trans hb hbn
  all_goals clear hbn
  all_goals clear hod0 hbd0 hbe0
  all_goals go_wp2_with fail
  all_goals go_ret
  all_goals exact ⟨rfl, hb⟩

end Go.Proofs.Ythnapjodmndlaaa.fnExactIsUnambiguous

namespace Go.Proofs.Ythnapjodmndlaaa.fnExactIsUnambiguous
set_option linter.unusedVariables false
set_option linter.unusedSimpArgs false
open Go.ChangeShapes Go.WideShapes Go.ChangeAt Go.RowKit
/-! ### The row -/
theorem own : ownKnob Try.prog.godebug = none := by kernel_rfl
theorem laidOut : laidOutB Try.prog = true := by kernel_rfl
set_option maxRecDepth 100000 in
theorem lifted (os : Os) (started : os.Started) (H : Type) (enc : TypeId × Value → H) :
    ReturnsInHanded {} Try.checked os 3 .any (Rows.fnExactIsUnambiguousSpec.pre6 enc Try.prog Try.f3 Rows.fnExactIsUnambiguousRow.domain false) (Rows.fnExactIsUnambiguousSpec.post enc Try.prog Try.f3 false true false false) := by
  refine returnsInHanded_of_change (C := Try.checked) own started (by kernel_rfl) Try.func3
    (ChangeSpec.witness6 (enc := enc) (C := Try.checked) false ⟨#[], #[.agg #[.slice none 0 0, .int .i64 0, .int .i64 0, .slice none 0 0, .bool false]], []⟩ 8 (by kernel_rfl) (by kernel_rfl) (by kernel_rfl) (by kernel_rfl)) ?_
  intro W base args ds gs before hval0 hW hcnd _
  have hval : ∀ (j : Nat) t v, Try.f3.params[j]? = some t → args[j]? = some v → Value.okWide Try.prog W .any base t v := hval0
  have hW' := hW
  obtain ⟨p, q, hA0, hV, rfl, hfz, hnd⟩ := hW
  have hA : DataW.TrodAll enc Try.prog W 0 (fun _ => true) true Try.f3.params.toList args.toList ds p := hA0
  rw [Try.params3] at hA hval
  obtain ⟨v0, vs0, d0, ds0, p0, q0, hargs, rfl, rfl, h0, r0⟩ := trodAll_cons hA
  obtain ⟨rfl, rfl, rfl⟩ := trodAll_nil r0
  obtain rfl : args = #[v0] := by cases args; simp_all
  obtain ⟨rfl, rfl⟩ := trodVars_none hV
  obtain ⟨a0, w0⟩ := openPositions (hval 0 24 v0 rfl rfl) h0
  refine (walk W v0 a0 w0).mono fun e W' ⟨he, hb⟩ => ?_
  subst he
  exact ⟨_, rfl, law_post laidOut (by kernel_rfl) rfl Try.underlying4 rfl rfl hW' hb⟩
theorem unf : Try.pinned.checked.prog.unfollowed 3 = true := by kernel_rfl
theorem inpl : Try.pinned.checked.prog.inPlace 3 = [] := by kernel_rfl
theorem vnam : Try.pinned.checked.prog.varsNamed 3 = [] := by kernel_rfl
theorem rec_ : Try.pinned.checked.prog.recurses 3 = true := by rw [Program.recurses, unf, Bool.true_or]
theorem over : Rows.fnExactIsUnambiguousRow.holds Try.pinned (OpenSpec.ofChange Rows.fnExactIsUnambiguousSpec) :=
  OpenClaim.holds_of_wide 3 Try.f3 rfl rfl rfl rfl rfl rfl rfl ⟨rfl, rfl, rfl, rfl, rfl⟩ rfl rfl rfl rfl rfl (by kernel_rfl) Try.func3 (by unfold joinedFacts; rw [seat_mayEnter, seat_lifts, seat_laidOut, seat_mapsRowed, unf, rec_, inpl, vnam]; kernel_rfl)
    (of_decide_eq_true (by kernel_rfl)) (by unfold Func.isWrapper; first | (rw [if_pos (by decide +kernel)]; kernel_rfl) | (rw [if_neg (by decide +kernel)]; exact ⟨rfl, rfl⟩))
    (fun os started H enc _ => lifted os started H enc)
theorem proved : Rows.FnExactIsUnambiguousSaid := over
end Go.Proofs.Ythnapjodmndlaaa.fnExactIsUnambiguous

