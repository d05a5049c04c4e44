/- 'laws.FnExactLongestShortest' returns true for all arguments, without any condition: the program's LongestShortest equals the reference's and leaves its arguments alone. -/
import Derived.Test.YtmlfkledhnlkeaaPartIOEOBGMG
namespace Go.Proofs.Ytmlfkledhnlkeaa.fnExactLongestShortest
set_option linter.unusedVariables false
set_option linter.unusedSimpArgs false
open Go.ChangeShapes Go.WideShapes Go.ChangeAt Go.RowKit
/-! ### The row -/
theorem own : ownKnob Try.prog.godebug = none := by kernel_rfl
theorem laidOut : laidOutB Try.prog = true := by kernel_rfl
set_option maxRecDepth 100000 in
theorem lifted (os : Os) (started : os.Started) (H : Type) (enc : TypeId × Value → H) :
    ReturnsInHanded {} Try.checked os 11 .any (Rows.fnExactLongestShortestSpec.pre6 enc Try.prog Try.f11 Rows.fnExactLongestShortestRow.domain false) (Rows.fnExactLongestShortestSpec.post enc Try.prog Try.f11 false true false false) := by
  refine returnsInHanded_of_change (C := Try.checked) own started (by kernel_rfl) Try.func11
    (ChangeSpec.witness6 (enc := enc) (C := Try.checked) false ⟨#[], #[.agg #[.slice none 0 0, .slice none 0 0], .agg #[.int .i64 0, .slice none 0 0, .slice none 0 0]], []⟩ 8 (by kernel_rfl) (by kernel_rfl) (by kernel_rfl) (by kernel_rfl)) ?_
  intro W base args ds gs before hval0 hW hcnd _
  have hval : ∀ (j : Nat) t v, Try.f11.params[j]? = some t → args[j]? = some v → Value.okWide Try.prog W .any base t v := hval0
  have hW' := hW
  obtain ⟨p, q, hA0, hV, rfl, hfz, hnd⟩ := hW
  have hA : DataW.TrodAll enc Try.prog W 0 (fun _ => true) true Try.f11.params.toList args.toList ds p := hA0
  rw [Try.params11] at hA hval
  obtain ⟨v0, vs0, d0, ds0, p0, q0, hargs, rfl, rfl, h0, r0⟩ := trodAll_cons hA
  obtain ⟨v1, vs1, d1, ds1, p1, q1, rfl, rfl, rfl, h1, r1⟩ := trodAll_cons r0
  obtain ⟨rfl, rfl, rfl⟩ := trodAll_nil r1
  obtain rfl : args = #[v0, v1] := by cases args; simp_all
  obtain ⟨rfl, rfl⟩ := trodVars_none hV
  obtain ⟨a0, w0⟩ := openGraph (hval 0 38 v0 rfl rfl) h0
  obtain ⟨a1, w1⟩ := openAutomaton (hval 1 42 v1 rfl rfl) h1
  refine (walk W v0 a0 w0 v1 a1 w1).mono fun e W' ⟨he, hb⟩ => ?_
  subst he
  exact ⟨_, rfl, law_post laidOut (by kernel_rfl) rfl Try.underlying4 rfl rfl hW' hb⟩
theorem ranked : rankOk Try.pinned.checked.prog [(11, 11), (22, 1), (26, 2), (27, 3), (29, 3), (30, 3), (32, 3), (33, 3), (36, 5), (37, 8), (47, 7), (48, 10), (55, 1), (57, 1), (63, 1), (64, 1), (65, 2), (66, 4), (68, 2), (69, 1), (70, 2), (71, 4), (73, 2), (74, 2), (75, 1), (76, 2), (77, 1), (79, 1), (83, 3), (84, 7), (91, 3), (95, 5), (98, 6), (99, 9), (100, 1), (109, 2), (115, 3), (116, 1), (118, 1), (119, 3), (120, 2), (121, 5), (123, 1), (124, 1), (127, 2), (128, 2), (129, 4), (130, 1), (131, 6), (132, 6), (137, 2), (139, 1), (140, 4), (148, 2), (149, 1), (150, 1), (151, 1), (152, 1), (153, 2), (154, 3), (156, 3), (165, 2), (169, 1), (170, 1)] = true := by kernel_rfl
theorem plain_ : plainAll Try.pinned.checked.prog [(11, 11), (22, 1), (26, 2), (27, 3), (29, 3), (30, 3), (32, 3), (33, 3), (36, 5), (37, 8), (47, 7), (48, 10), (55, 1), (57, 1), (63, 1), (64, 1), (65, 2), (66, 4), (68, 2), (69, 1), (70, 2), (71, 4), (73, 2), (74, 2), (75, 1), (76, 2), (77, 1), (79, 1), (83, 3), (84, 7), (91, 3), (95, 5), (98, 6), (99, 9), (100, 1), (109, 2), (115, 3), (116, 1), (118, 1), (119, 3), (120, 2), (121, 5), (123, 1), (124, 1), (127, 2), (128, 2), (129, 4), (130, 1), (131, 6), (132, 6), (137, 2), (139, 1), (140, 4), (148, 2), (149, 1), (150, 1), (151, 1), (152, 1), (153, 2), (154, 3), (156, 3), (165, 2), (169, 1), (170, 1)] = true := by kernel_rfl
theorem unf : Try.pinned.checked.prog.unfollowed 11 = false := unfollowed_no ranked plain_ (r := 11) (by rfl)
theorem rec_ : Try.pinned.checked.prog.recurses 11 = false := recurses_no ranked plain_ (r := 11) (by rfl)
theorem over : Rows.fnExactLongestShortestRow.holds Try.pinned (OpenSpec.ofChange Rows.fnExactLongestShortestSpec) :=
  OpenClaim.holds_of_wide 11 Try.f11 rfl rfl rfl rfl rfl rfl rfl ⟨rfl, rfl, rfl, rfl, rfl⟩ rfl rfl rfl rfl rfl (by kernel_rfl) Try.func11 (by unfold joinedFacts; rw [seat_mayEnter, seat_lifts, seat_laidOut, seat_mapsRowed, unf, rec_]; kernel_rfl)
    (of_decide_eq_true (by kernel_rfl)) (by unfold Func.isWrapper; first | (rw [if_pos (by decide +kernel)]; kernel_rfl) | (rw [if_neg (by decide +kernel)]; exact ⟨rfl, rfl⟩))
    (fun os started H enc _ => lifted os started H enc)
theorem proved : Rows.FnExactLongestShortestSaid := over
end Go.Proofs.Ytmlfkledhnlkeaa.fnExactLongestShortest
