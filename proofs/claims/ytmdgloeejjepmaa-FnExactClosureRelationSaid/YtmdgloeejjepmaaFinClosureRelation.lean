/- 'laws.FnExactClosureRelation' returns true for all arguments, without any condition: the program's ClosureRelation equals the reference's, leaves its arguments alone, and its result shares no memory with them or with another result. -/
import Derived.Test.YtmdgloeejjepmaaPartKDPHDHPG
import Derived.Test.YtmdgloeejjepmaaPartFMMHGNHK
import Derived.Test.YtmdgloeejjepmaaPartBLFIJLDM
import Derived.Test.YtmdgloeejjepmaaPartMHELFEDG
import Derived.Deep.RegionHeld3
import Derived.Test.YtmdgloeejjepmaaPartKPCACOJC
namespace Go.Proofs.Ytmdgloeejjepmaa.fnExactClosureRelation
set_option linter.unusedVariables false
set_option linter.unusedSimpArgs false
open Go.ChangeShapes Go.WideShapes Go.ChangeAt Go.RowKit
attribute [local go_sem] ext_cell ext_frozen ext_lt ext_lt1 ext_lt2 ext_lt3 ltn2 ltn3 ltn13 lts1 lts2 lts3

theorem hold0 {w w' w'' : World} {B : Nat} (hB : Below w'.heap.size w' w'') (h : Below w.heap.size w w' ∧ B ≤ w'.heap.size ∧ True) : Below w.heap.size w w'' ∧ B ≤ w''.heap.size ∧ True := ⟨below_trans h.1 hB, Nat.le_trans h.2.1 hB.size, trivial⟩
set_option maxRecDepth 100000 in
set_option maxHeartbeats 8000000 in
theorem walk (w : World) (n : Int) (wf0 : (Lit.int .i64 n).wf = true) (v1 : Value) (a : List Pr) (hv1 : SlE w cPr 2 v1 a) :
    Calls Try.prog 5 #[.int .i64 n, v1] w fun e w' => e = .returned (.bool true) ∧ Below w.heap.size w w' := by
  have hb : Below w.heap.size w w := Below.refl _ _
  clear wf0
  have hvo1 := hv1
  obtain ⟨A1, c1, rfl, hl1, hm1, -⟩ := hv1
  go_enter Try.func5, Try.ntmps5
  go_wp2_with fail
  refine (szPairS_any A1 a.length c1 1048576 _ (Nat.le_trans hl1 hm1) (by omega) (by omega)).mono ?_
  rintro e ws0 ⟨rfl, hw⟩
  rw [hw]
  clear hw ws0
  by_cases hz : (1048576 : Int) < (a.length : Nat)
  · rw [if_pos hz]
    clear hz
    go_wp2_with fail
    go_ret
    exact ⟨rfl, hb⟩
  rw [if_neg hz]
  have ha1 : a.length ≤ 1048576 := by omega
  have hzd : decide ((1048576 : Int) - (a.length : Nat) < 0) = false := by simpa using (by omega : (a.length : Nat) ≤ (1048576 : Int))
  have hzm0 : (1048576 : Int) - (a.length : Nat) ≤ 1048576 := by omega
  have hz00 : 0 ≤ (1048576 : Int) - (a.length : Nat) := by omega
  clear hz
  generalize (1048576 : Int) - (a.length : Nat) = z0 at hzd hzm0 hz00 ⊢
  go_wp2_with fail
  clear hzd
  clear hzm0 hz00
  have hlen : (closureL n a).length ≤ 25 := closure_len n a
  have hres : (closureL n a).length ≤ 4398046511104 := by omega
  (refine (toPairS_any _ a _ (hvo1.keep hb) ha1).mono ?_; rintro e wc1a ⟨vc1a, rfl, hoc1a, hbn⟩)
  have z_wc1a := hbn.size
  replace hb := below_trans hb hbn
  clear hbn
  have hoc1as : wc1a.heap.size ≤ wc1a.heap.size := Nat.le_refl _
  go_wp2_with fail
  (refine (specClosure n _ a _ ((hoc1a.sl cPr_len).all hoc1as) ha1).mono ?_; rintro e wres ⟨vr, rfl, hor, hbn⟩)
  clear hoc1a hoc1as
  have z_wres := hbn.size
  replace hb := below_trans hb hbn
  clear hbn
  have hr := hor
  have hrs : wres.heap.size ≤ wres.heap.size := Nat.le_refl _
  clear hor
  go_wp2_with fail
  (refine (toPairS_any _ a _ (hvo1.keep hb) ha1).mono ?_; rintro e wk1 ⟨vk1, rfl, hx1, hbn⟩)
  replace hr := hr.below hbn hrs
  replace hrs := Nat.le_trans hrs hbn.size
  have z_wk1 := hbn.size
  replace hb := below_trans hb hbn
  clear hbn
  have hx1s : wk1.heap.size ≤ wk1.heap.size := Nat.le_refl _
  go_wp2_with fail
  (refine (implClosure n _ a _ ((hx1.sl cPr_len).all hx1s) ha1).mono ?_; rintro e wg ⟨vg, rfl, hg, hbn⟩)
  replace hr := hr.below hbn hrs
  replace hrs := Nat.le_trans hrs hbn.size
  replace hx1 := hx1.below hbn hx1s
  replace hx1s := Nat.le_trans hx1s hbn.size
  have z_wg := hbn.size
  replace hb := below_trans hb hbn
  clear hbn
  have hgs : wg.heap.size ≤ wg.heap.size := Nat.le_refl _
  go_wp2_with fail
  (refine (eqPairS_same _ _ (closureL n a) _ ((hg.sl cPr_len).all hgs) ((hr.sl cPr_len).all hrs)).mono ?_; rintro e wq0 ⟨rfl, hbn⟩)
  replace hr := hr.below hbn hrs
  replace hrs := Nat.le_trans hrs hbn.size
  replace hx1 := hx1.below hbn hx1s
  replace hx1s := Nat.le_trans hx1s hbn.size
  replace hg := hg.below hbn hgs
  replace hgs := Nat.le_trans hgs hbn.size
  have z_wq0 := hbn.size
  replace hb := below_trans hb hbn
  clear hbn
  go_wp2_with fail
  (refine (toPairS_any _ a _ (hvo1.keep hb) ha1).mono ?_; rintro e wd1 ⟨vd1, rfl, hod1, hbn⟩)
  replace hr := hr.below hbn hrs
  replace hrs := Nat.le_trans hrs hbn.size
  replace hx1 := hx1.below hbn hx1s
  replace hx1s := Nat.le_trans hx1s hbn.size
  replace hg := hg.below hbn hgs
  replace hgs := Nat.le_trans hgs hbn.size
  have z_wd1 := hbn.size
  replace hb := below_trans hb hbn
  clear hbn
  go_wp2_with fail
  (refine (eqPairS_same _ _ a _ ((hx1.sl cPr_len).all hx1s) ((hod1.sl cPr_len).all (Nat.le_refl _))).mono ?_; rintro e we1 ⟨rfl, hbn⟩)
  clear hod1
  replace hr := hr.below hbn hrs
  replace hrs := Nat.le_trans hrs hbn.size
  replace hx1 := hx1.below hbn hx1s
  replace hx1s := Nat.le_trans hx1s hbn.size
  replace hg := hg.below hbn hgs
  replace hgs := Nat.le_trans hgs hbn.size
  have z_we1 := hbn.size
  replace hb := below_trans hb hbn
  clear hbn
  go_wp2_with fail
  (refine (markPairS_any _ _ _ _ a (1) _ hx1 (by omega) (by omega)).mono ?_; rintro e wm1 ⟨rfl, hxm, ho⟩)
  clear hxm hx1 hx1s
  replace hr := hr.only ho (by omega)
  replace hrs := Nat.le_trans hrs ho.size
  replace hg := hg.only ho (by omega)
  replace hgs := Nat.le_trans hgs ho.size
  have z_wm1 := ho.size
  replace hb := hb.trans (ho.below (by omega) (by omega))
  clear ho
  have hkd : decide (1 + 2 * ((a.length : Nat) : Int) < 0) = false := by simp; omega
  go_wp2_with fail
  clear hkd
  (refine (eqPairS_same _ _ (closureL n a) _ ((hg.sl cPr_len).all hgs) ((hr.sl cPr_len).all hrs)).mono ?_; rintro e wq1 ⟨rfl, hbn⟩)
  replace hr := hr.below hbn hrs
  replace hrs := Nat.le_trans hrs hbn.size
  replace hg := hg.below hbn hgs
  replace hgs := Nat.le_trans hgs hbn.size
  have z_wq1 := hbn.size
  replace hb := below_trans hb hbn
  clear hbn
  go_wp2_with fail
  (refine (markPairS_any _ _ _ _ (closureL n a) 1 _ hg (by omega) (by omega)).mono ?_; rintro e wmg ⟨rfl, hgm, ho⟩)
  clear hg
  have hg := hgm
  clear hgm
  replace hr := hr.only ho (by omega)
  replace hrs := Nat.le_trans hrs ho.size
  replace hgs := Nat.le_trans hgs ho.size
  have z_wmg := ho.size
  replace hb := hb.trans (ho.below (by omega) (by omega))
  clear ho
  go_wp2_with fail
  (refine (heldPairS_any _ (closureL n a).length 1 _ ((hg.sl cPr_len).all hgs) (by omega) (by omega)).mono ?_; rintro e wh0 ⟨rfl, hbn⟩)
  replace hr := hr.below hbn hrs
  replace hrs := Nat.le_trans hrs hbn.size
  replace hg := hg.below hbn hgs
  replace hgs := Nat.le_trans hgs hbn.size
  have z_wh0 := hbn.size
  replace hb := below_trans hb hbn
  clear hbn
  have t0 : decide (1 + 2 * ((closureL n a).length : Int) < 0) = false := by simp; omega
  have t1 : (1 + 2 * ((closureL n a).length : Int) != 1 + 2 * ((closureL n a).length : Int)) = false := by simp
  go_wp2_with fail
  clear t0 t1
  (refine (toPairS_any _ a _ (hvo1.keep hb) ha1).mono ?_; rintro e wc1b ⟨vc1b, rfl, hoc1b, hbn⟩)
  replace hr := hr.below hbn hrs
  replace hrs := Nat.le_trans hrs hbn.size
  replace hg := hg.below hbn hgs
  replace hgs := Nat.le_trans hgs hbn.size
  have z_wc1b := hbn.size
  replace hb := below_trans hb hbn
  clear hbn
  have hoc1bs : wc1b.heap.size ≤ wc1b.heap.size := Nat.le_refl _
  go_wp2_with fail
  (refine (implClosure n _ a _ ((hoc1b.sl cPr_len).all hoc1bs) ha1).mono ?_; rintro e wres2 ⟨vh, rfl, hoh, hbn⟩)
  clear hoc1b hoc1bs
  replace hr := hr.below hbn hrs
  replace hrs := Nat.le_trans hrs hbn.size
  replace hg := hg.below hbn hgs
  replace hgs := Nat.le_trans hgs hbn.size
  have z_wres2 := hbn.size
  replace hb := below_trans hb hbn
  clear hbn
  go_wp2_with fail
  (refine (eqPairS_same _ _ (closureL n a) _ ((hoh.sl cPr_len).all (Nat.le_refl _)) ((hr.sl cPr_len).all hrs)).mono ?_; rintro e wq2 ⟨rfl, hbn⟩)
  replace hr := hr.below hbn hrs
  replace hrs := Nat.le_trans hrs hbn.size
  replace hg := hg.below hbn hgs
  replace hgs := Nat.le_trans hgs hbn.size
  have z_wq2 := hbn.size
  replace hb := below_trans hb hbn
  clear hbn
  go_wp2_with fail
  (refine (heldPairS_any _ (closureL n a).length 1 _ ((hg.sl cPr_len).all hgs) (by omega) (by omega)).mono ?_; rintro e wh1 ⟨rfl, hbn⟩)
  replace hr := hr.below hbn hrs
  replace hrs := Nat.le_trans hrs hbn.size
  replace hg := hg.below hbn hgs
  replace hgs := Nat.le_trans hgs hbn.size
  have z_wh1 := hbn.size
  replace hb := below_trans hb hbn
  clear hbn
  have t0 : decide (1 + 2 * ((closureL n a).length : Int) < 0) = false := by simp; omega
  have t1 : (1 + 2 * ((closureL n a).length : Int) != 1 + 2 * ((closureL n a).length : Int)) = false := by simp
  go_wp2_with fail
  clear t0 t1
  go_ret
  exact ⟨rfl, hb⟩

end Go.Proofs.Ytmdgloeejjepmaa.fnExactClosureRelation

namespace Go.Proofs.Ytmdgloeejjepmaa.fnExactClosureRelation
set_option linter.unusedVariables false
set_option linter.unusedSimpArgs false
open Go.ChangeShapes Go.WideShapes Go.ChangeAt Go.RowKit
/-! ### The row -/
theorem own : ownKnob Try.prog.godebug = none := by kernel_rfl
theorem laidOut : laidOutB Try.prog = true := by kernel_rfl
set_option maxRecDepth 100000 in
theorem lifted (os : Os) (started : os.Started) (H : Type) (enc : TypeId × Value → H) :
    ReturnsInHanded {} Try.checked os 5 .any (Rows.fnExactClosureRelationSpec.pre6 enc Try.prog Try.f5 Rows.fnExactClosureRelationRow.domain false) (Rows.fnExactClosureRelationSpec.post enc Try.prog Try.f5 false true false false) := by
  refine returnsInHanded_of_change (C := Try.checked) own started (by kernel_rfl) Try.func5
    (ChangeSpec.witness6 (enc := enc) (C := Try.checked) false ⟨#[], #[.int .i64 0, .slice none 0 0], []⟩ 8 (by kernel_rfl) (by kernel_rfl) (by kernel_rfl) (by kernel_rfl)) ?_
  intro W base args ds gs before hval0 hW hcnd _
  have hval : ∀ (j : Nat) t v, Try.f5.params[j]? = some t → args[j]? = some v → Value.okWide Try.prog W .any base t v := hval0
  have hW' := hW
  obtain ⟨p, q, hA0, hV, rfl, hfz, hnd⟩ := hW
  have hA : DataW.TrodAll enc Try.prog W 0 (fun _ => true) true Try.f5.params.toList args.toList ds p := hA0
  rw [Try.params5] at hA hval
  obtain ⟨v0, vs0, d0, ds0, p0, q0, hargs, rfl, rfl, h0, r0⟩ := trodAll_cons hA
  obtain ⟨v1, vs1, d1, ds1, p1, q1, rfl, rfl, rfl, h1, r1⟩ := trodAll_cons r0
  obtain ⟨rfl, rfl, rfl⟩ := trodAll_nil r1
  obtain rfl : args = #[v0, v1] := by cases args; simp_all
  obtain ⟨rfl, rfl⟩ := trodVars_none hV
  obtain ⟨a0, rfl, rfl, rfl, w0⟩ := open_int Try.underlying3 (hval 0 3 v0 rfl rfl) h0
  obtain ⟨a1, w1⟩ := openPairs (hval 1 22 v1 rfl rfl) h1
  refine (walk W a0 w0 v1 a1 w1).mono fun e W' ⟨he, hb⟩ => ?_
  subst he
  exact ⟨_, rfl, law_post laidOut (by kernel_rfl) rfl Try.underlying4 rfl rfl hW' hb⟩
theorem unf : Try.pinned.checked.prog.unfollowed 5 = true := by kernel_rfl
theorem inpl : Try.pinned.checked.prog.inPlace 5 = [] := by kernel_rfl
theorem vnam : Try.pinned.checked.prog.varsNamed 5 = [] := by kernel_rfl
theorem rec_ : Try.pinned.checked.prog.recurses 5 = true := by rw [Program.recurses, unf, Bool.true_or]
theorem over : Rows.fnExactClosureRelationRow.holds Try.pinned (OpenSpec.ofChange Rows.fnExactClosureRelationSpec) :=
  OpenClaim.holds_of_wide 5 Try.f5 rfl rfl rfl rfl rfl rfl rfl ⟨rfl, rfl, rfl, rfl, rfl⟩ rfl rfl rfl rfl rfl (by kernel_rfl) Try.func5 (by unfold joinedFacts; rw [seat_mayEnter, seat_lifts, seat_laidOut, seat_mapsRowed, unf, rec_, inpl, vnam]; kernel_rfl)
    (of_decide_eq_true (by kernel_rfl)) (by unfold Func.isWrapper; first | (rw [if_pos (by decide +kernel)]; kernel_rfl) | (rw [if_neg (by decide +kernel)]; exact ⟨rfl, rfl⟩))
    (fun os started H enc _ => lifted os started H enc)
theorem proved : Rows.FnExactClosureRelationSaid := over
end Go.Proofs.Ytmdgloeejjepmaa.fnExactClosureRelation

