/- 'laws.FnExactIdentityRelation' returns true for every int, without any condition: the program's IdentityRelation equals the reference's, and its result shares no memory with another result. -/
import Derived.Test.YtfenpcpllhpbfaaFrame
import Derived.Test.YtfenpcpllhpbfaaIdent
import Derived.Test.YtfenpcpllhpbfaaPairs
namespace Go.Proofs.Ytfenpcpllhpbfaa.fnExactIdentityRelation
open Go.ChangeShapes Go.WideShapes Go.ChangeAt Go.RowKit
set_option linter.unusedVariables false

theorem identityOf_len (n : Int) : (identityOf n).length ≤ 5 := by
  unfold identityOf
  split
  · simp
  · rw [idPairs_len]; omega

set_option maxHeartbeats 1000000 in
theorem walk (a0 : Int) (w0 : (Lit.int .i64 a0).wf = true) (w : World) :
    Calls Try.prog 4 #[.int .i64 a0] w fun e w' => e = .returned (.bool true) ∧ Below w.heap.size w w' := by
  have hlen := identityOf_len a0
  go_enter Try.func4, Try.ntmps4
  go_wp2_with fail
  refine (specIdentity a0 _).mono ?_; rintro e w1 ⟨v1, rfl, ho1, hb1⟩
  go_wp2_with fail
  refine (implIdentity a0 _).mono ?_; rintro e w2 ⟨v2, rfl, ho2, hb2⟩
  have ho1' := ho1.below hb2 (Nat.le_refl _)
  have s1 := hb1.size
  have s2 := hb2.size
  go_wp2_with fail
  refine (eqPairS_same v2 v1 _ _ ((ho2.sl cPr_len).all (Nat.le_refl _)) ((ho1'.sl cPr_len).all s2)).mono ?_; rintro e w3 ⟨rfl, hb3⟩
  have s3 := hb3.size
  have ho13 := ho1'.below hb3 s2
  have ho23 := ho2.below hb3 (Nat.le_refl _)
  go_wp2_with fail
  refine (markPairS_any _ _ _ v2 _ 1 _ ho23 (by omega) (by omega)).mono ?_; rintro e w4 ⟨rfl, ho24, hy4⟩
  have ho14 := ho13.only hy4 (.inl (Nat.le_refl _))
  have s4 := hy4.size
  have hh4 := (heldPairS_any v2 (identityOf a0).length 1 w4 ((ho24.sl cPr_len).all (by omega)) (by omega) (by omega))
  go_wp2_with fail
  refine hh4.mono ?_; rintro e w5 ⟨rfl, hb5⟩
  have s5 := hb5.size
  have t1 : (1 + 2 * ((identityOf a0).length : Int) != 1 + 2 * ((identityOf a0).length : Int)) = false := by simp
  go_wp2_with fail
  refine (implIdentity a0 _).mono ?_; rintro e w6 ⟨v3, rfl, ho3, hb6⟩
  have s6 := hb6.size
  have ho16 := (ho14.below hb5 (by omega)).below hb6 (by omega)
  have ho26 := (ho24.below hb5 (by omega)).below hb6 (by omega)
  go_wp2_with fail
  refine (eqPairS_same v3 v1 _ _ ((ho3.sl cPr_len).all (Nat.le_refl _)) ((ho16.sl cPr_len).all (by omega))).mono ?_; rintro e w7 ⟨rfl, hb7⟩
  have s7 := hb7.size
  have ho27 := ho26.below hb7 (by omega)
  have hh7 := (heldPairS_any v2 (identityOf a0).length 1 w7 ((ho27.sl cPr_len).all (by omega)) (by omega) (by omega))
  go_wp2_with fail
  refine hh7.mono ?_; rintro e w8 ⟨rfl, hb8⟩
  go_wp2_with fail
  go_ret
  exact ⟨rfl, hb1.trans ((hb2.mono s1).trans ((hb3.mono (by omega)).trans ((hy4.below (by omega) (by omega)).trans ((hb5.mono (by omega)).trans ((hb6.mono (by omega)).trans ((hb7.mono (by omega)).trans (hb8.mono (by omega))))))))⟩

/-! ### The row -/
theorem own : ownKnob Try.prog.godebug = none := by kernel_rfl
theorem laidOut : laidOutB Try.prog = true := by kernel_rfl
set_option maxRecDepth 100000 in
theorem lifted (os : Os) (started : os.Started) (H : Type) (enc : TypeId × Value → H) :
    ReturnsInHanded {} Try.checked os 4 .any (Rows.fnExactIdentityRelationSpec.pre6 enc Try.prog Try.f4 Rows.fnExactIdentityRelationRow.domain false) (Rows.fnExactIdentityRelationSpec.post enc Try.prog Try.f4 false true false false) := by
  refine returnsInHanded_of_change (C := Try.checked) own started (by kernel_rfl) Try.func4
    (ChangeSpec.witness6 (enc := enc) (C := Try.checked) false ⟨#[], #[.int .i64 0], []⟩ 8 (by kernel_rfl) (by kernel_rfl) (by kernel_rfl) (by kernel_rfl)) ?_
  intro W base args ds gs before hval0 hW hcnd _
  have hval : ∀ (j : Nat) t v, Try.f4.params[j]? = some t → args[j]? = some v → Value.okWide Try.prog W .any base t v := hval0
  have hW' := hW
  obtain ⟨p, q, hA0, hV, rfl, hfz, hnd⟩ := hW
  have hA : DataW.TrodAll enc Try.prog W 0 (fun _ => true) true Try.f4.params.toList args.toList ds p := hA0
  rw [Try.params4] at hA hval
  obtain ⟨v0, vs0, d0, ds0, p0, q0, hargs, rfl, rfl, h0, r0⟩ := trodAll_cons hA
  obtain ⟨rfl, rfl, rfl⟩ := trodAll_nil r0
  obtain rfl : args = #[v0] := by cases args; simp_all
  obtain ⟨rfl, rfl⟩ := trodVars_none hV
  obtain ⟨a0, rfl, rfl, rfl, w0⟩ := open_int Try.underlying3 (hval 0 3 v0 rfl rfl) h0
  refine (walk a0 w0 W).mono fun e W' ⟨he, hb⟩ => ?_
  subst he
  exact ⟨_, rfl, law_post laidOut (by kernel_rfl) rfl Try.underlying4 rfl rfl hW' hb⟩
theorem over : Rows.fnExactIdentityRelationRow.holds Try.pinned (OpenSpec.ofChange Rows.fnExactIdentityRelationSpec) :=
  OpenClaim.holds_of_wide 4 Try.f4 rfl rfl rfl rfl rfl rfl rfl ⟨rfl, rfl, rfl, rfl, rfl⟩ rfl rfl rfl rfl rfl (by kernel_rfl) Try.func4 (by kernel_rfl)
    (of_decide_eq_true (by kernel_rfl)) (by unfold Func.isWrapper; first | (rw [if_pos (by decide +kernel)]; kernel_rfl) | (rw [if_neg (by decide +kernel)]; exact ⟨rfl, rfl⟩))
    (fun os started H enc _ => lifted os started H enc)
theorem proved : Rows.FnExactIdentityRelationSaid := over
end Go.Proofs.Ytfenpcpllhpbfaa.fnExactIdentityRelation
