/- 'laws.FnCutCycles' returns true for every list of bytes, without any condition: a walk without its cycles is a simple path with the same ends, and every simple path remains unchanged. -/
import Derived.Test.YtallglnmeeahiaaPartFDAIEBNB
import Derived.Test.YtallglnmeeahiaaPartDLBGOHJO
import Derived.Test.YtallglnmeeahiaaPartENICMIJB
import Derived.Test.YtallglnmeeahiaaPartNINBNMCI
namespace Go.Proofs.Ytallglnmeeahiaa.fnCutCycles
set_option linter.unusedVariables false
set_option linter.unusedSimpArgs false
open Go.ChangeShapes Go.WideShapes Go.ChangeAt Go.RowKit
attribute [local go_sem] ext_cell ext_frozen ext_lt ext_lt1 ext_lt2 ext_lt3 ltn2 ltn3 ltn13 lts1 lts2 lts3

theorem isSimple_iff {g : Gr} {k : Wk} : isSimple g k = true ↔ walkOk g k = true ∧ (nodesL g k).Nodup := by
  rw [isSimple, Bool.and_eq_true, decide_eq_true_eq]
  constructor
  · rintro ⟨h1, h2⟩
    refine ⟨h1, ?_⟩
    rw [List.nodup_iff_pairwise_ne, List.pairwise_iff_getElem]
    intro i j hi hj hij e
    refine ascL_len_no (List.getElem?_eq_getElem hj) ?_ h2
    rw [← e]
    exact List.mem_take_iff_getElem.2 ⟨i, by omega, rfl⟩
  · rintro ⟨h1, h2⟩
    exact ⟨h1, ascL_len_yes h2⟩
theorem cut_law {g : Gr} {k : Wk} (h : walkOk g k = true) : isSimple g (cutOf g k) = true ∧ (cutOf g k).1 = k.1 ∧ walkEnd g (cutOf g k) = walkEnd g k ∧ (isSimple g k = true → cutOf g k = k) := by
  obtain ⟨h1, h2, h3, h4⟩ := cutOf_simple h
  refine ⟨isSimple_iff.2 ⟨h1, h2⟩, h3, ?_, fun hs => cutOf_same h (isSimple_iff.1 hs).2⟩
  rw [walkEnd, walkEnd, if_pos h1, if_pos h]
  have e : ∀ j : Wk, (nodesL g j).getD j.2.length 0 = ((nodesL g j).getLast?).getD 0 := by
    intro j
    rw [List.getLast?_eq_getElem?, nodesL_len, Nat.add_sub_cancel, List.getD_eq_getElem?_getD]
  rw [nodeAt, nodeAt, e, e, h4]
theorem cmpWk_same (k : Wk) : cmpWk k k = 0 := cmpWk_eq.2 rfl

theorem cmp_same (va vb : Value) (j : Wk) (W : World) (h0 : WkV 0 W.heap.size W va j) (h1 : WkV 0 W.heap.size W vb j) :
    Calls Try.prog 18 #[va, vb] W fun e w' => e = .returned (.int .i64 0) ∧ Below W.heap.size W w' := by
  have h := specCompareWalks va vb j j W h0 h1
  rwa [cmpWk_same] at h

set_option maxRecDepth 100000 in
set_option maxHeartbeats 8000000 in
theorem walk (w : World) (v0 : Value) (bs : List Int) (hv0 : SlI 0 w.heap.size w cU 1 v0 bs) :
    Calls Try.prog 4 #[v0] w fun e w' => e = .returned (.bool true) ∧ Below w.heap.size w w' := by
  have HV := Lib.hid hv0
  obtain ⟨A0, c0, rfl, hl0, hm0, -⟩ := hv0
  by_cases hbig : 1048576 < bs.length
  · go_enter Try.func4, Try.ntmps4
    go_wp2_with fail
    refine (big_yes _ _ _ _ hbig (by omega)).mono ?_
    rintro e w' ⟨rfl, rfl⟩
    go_wp2_with fail
    go_ret
    exact ⟨rfl, Below.refl _ _⟩
  go_enter Try.func4, Try.ntmps4
  go_wp2_with fail
  refine (big_no _ _ _ _ hbig).mono ?_
  rintro e w' ⟨rfl, rfl⟩
  clear hbig hl0 hm0
  go_wp2_with fail
  refine (drawCutCycles_any _ bs _ HV.out).mono ?_
  rintro e w1 ⟨vg, vk, g, k, rfl, hgv, hkv, hb1⟩
  replace hgv := hgv.mono (Nat.zero_le _) (Nat.le_refl _)
  replace hkv := hkv.mono (Nat.zero_le _) (Nat.le_refl _)
  have HL := Lib.hid (fun h => cut_law (g := g) (k := k) h)
  have HC0 := Lib.hid (show walkOk g k = false → cutOf g k = (0, []) from fun h => by rw [cutOf, h]; rfl)
  have HIM := Lib.hid (fun (va vb : Value) (W : World) h0 h1 => implCutCycles va vb g k W h0 h1)
  have HSP := Lib.hid (fun (va vb : Value) (W : World) h0 h1 => specCutCycles va vb g k W h0 h1)
  have HCM := Lib.hid (fun (va vb : Value) (j : Wk) (W : World) h0 h1 => cmp_same va vb j W h0 h1)
  obtain ⟨A1, n1, c1, A2, n2, c2, rfl⟩ := hgv.shape
  obtain ⟨st, L⟩ := k
  obtain ⟨A3, n3, c3, rfl⟩ := hkv.shape
  simp only at hkv ⊢
  have hal := ((Below.refl w1.heap.size w1).alloc (Nat.le_refl _) (.cells #[.slice A1 n1 c1, .slice A2 n2 c2] 38)).alloc (by simp) (.cells #[.int .i64 st, .slice A3 n3 c3] 41)
  have bg := (Blk.new w1 38 #[.slice A1 n1 c1, .slice A2 n2 c2] _ rfl).alloc (.cells #[.int .i64 st, .slice A3 n3 c3] 41)
  have bk := Blk.new (w1.alloc (.cells #[.slice A1 n1 c1, .slice A2 n2 c2] 38)) 41 #[.int .i64 st, .slice A3 n3 c3] (w1.heap.size + 1) (by simp)
  replace hgv := hgv.keep hal
  replace hkv := hkv.keep hal
  replace hb1 := below_trans hb1 hal
  clear hal
  have HGV := Lib.hid hgv
  have HKV := Lib.hid hkv
  have HB := Lib.hid hb1
  clear hgv hkv hb1
  generalize walkOk g (st, L) = C at *
  generalize cutOf g (st, L) = V at *
  go_upto_region 4 with fail
  generalize ((w1.alloc (.cells #[.slice A1 n1 c1, .slice A2 n2 c2] 38)).alloc (.cells #[.int .i64 st, .slice A3 n3 c3] 41)) = W at *
  have x0 : W.cell? ⟨w1.heap.size, 0, none⟩ = some (.slice A1 n1 c1) := bg.cell 0
  have x1 : W.cell? ⟨w1.heap.size, 1, none⟩ = some (.slice A2 n2 c2) := bg.cell 1
  have y0 : W.cell? ⟨w1.heap.size + 1, 0, none⟩ = some (.int .i64 st) := bk.cell 0
  have y1 : W.cell? ⟨w1.heap.size + 1, 1, none⟩ = some (.slice A3 n3 c3) := bk.cell 1
  clear bg bk
  go_wp2_with fail
  refine (HIM.out _ _ _ HGV.out HKV.out).mono ?_
  rintro e w2 ⟨vx, rfl, ⟨sx, rfl, hox⟩, hb2⟩
  obtain ⟨A5, n5, c5, hsx, hn5⟩ : ∃ A n c, sx = .slice A n c ∧ n = V.2.length := by
    obtain ⟨A, c, h1, -⟩ := hox.sl cSt_len
    exact ⟨A, _, c, h1, rfl⟩
  subst hsx
  have HN5 := Lib.hid hn5
  have hvx : WkV 0 w2.heap.size w2 (.agg #[.int .i64 V.1, .slice A5 n5 c5]) V := ⟨_, rfl, (hox.sl cSt_len).mono (Nat.zero_le _) (Nat.le_refl _)⟩
  have hal := (Below.refl w2.heap.size w2).alloc (Nat.le_refl _) (.cells #[.int .i64 V.1, .slice A5 n5 c5] 41)
  have bx := Blk.new w2 41 #[.int .i64 V.1, .slice A5 n5 c5] _ rfl
  have hbA := below_trans hb2 hal
  have HGV2 := Lib.hid (HGV.out.keep hbA)
  have HKV2 := Lib.hid (HKV.out.keep hbA)
  have HVX2 := Lib.hid (hvx.keep hal)
  have HB2 := Lib.hid (below_trans HB.out hbA)
  replace x0 := kcell hbA x0
  replace x1 := kcell hbA x1
  replace y0 := kcell hbA y0
  replace y1 := kcell hbA y1
  clear hox hvx hal hb2 hbA HGV HKV HB HIM hn5
  go_upto_region 5 with fail
  generalize w2.alloc (.cells #[.int .i64 V.1, .slice A5 n5 c5] 41) = W2 at *
  go_wp2_with fail
  refine (HSP.out _ _ _ HGV2.out HKV2.out).mono ?_
  rintro e w3 ⟨vy, rfl, ⟨sy, rfl, hoy⟩, hb3⟩
  obtain ⟨A6, n6, c6, rfl⟩ := hoy.shape
  have hvy : WkV 0 w3.heap.size w3 (.agg #[.int .i64 V.1, .slice A6 n6 c6]) V := ⟨_, rfl, (hoy.sl cSt_len).mono (Nat.zero_le _) (Nat.le_refl _)⟩
  have hal := (Below.refl w3.heap.size w3).alloc (Nat.le_refl _) (.cells #[.int .i64 V.1, .slice A6 n6 c6] 41)
  have by_ := Blk.new w3 41 #[.int .i64 V.1, .slice A6 n6 c6] _ rfl
  have hbA := below_trans hb3 hal
  have HGV3 := Lib.hid (HGV2.out.keep hbA)
  have HKV3 := Lib.hid (HKV2.out.keep hbA)
  have HVX3 := Lib.hid (HVX2.out.keep hbA)
  have HVY3 := Lib.hid (hvy.keep hal)
  have HB3 := Lib.hid (below_trans HB2.out hbA)
  have bx3 := bx.keep hbA
  replace x0 := kcell hbA x0
  replace x1 := kcell hbA x1
  replace y0 := kcell hbA y0
  replace y1 := kcell hbA y1
  clear hoy hvy hal hb3 hbA HGV2 HKV2 HB2 HVX2 HSP bx
  go_upto_region 6 with fail
  generalize w3.alloc (.cells #[.int .i64 V.1, .slice A6 n6 c6] 41) = W3 at *
  have p0 : W3.cell? ⟨w2.heap.size, 0, none⟩ = some (.int .i64 V.1) := bx3.cell 0
  have p1 : W3.cell? ⟨w2.heap.size, 1, none⟩ = some (.slice A5 n5 c5) := bx3.cell 1
  have r0 : W3.cell? ⟨w3.heap.size, 0, none⟩ = some (.int .i64 V.1) := by_.cell 0
  have r1 : W3.cell? ⟨w3.heap.size, 1, none⟩ = some (.slice A6 n6 c6) := by_.cell 1
  clear by_ bx3
  have hcc : (C != C) = false := by simp
  go_wp2_with fail
  refine (HCM.out _ _ V _ HVX3.out HVY3.out).mono ?_
  rintro e w4 ⟨rfl, hb4⟩
  replace x0 := kcell hb4 x0
  replace x1 := kcell hb4 x1
  replace y0 := kcell hb4 y0
  replace y1 := kcell hb4 y1
  replace p0 := kcell hb4 p0
  replace p1 := kcell hb4 p1
  have HGV4 := Lib.hid (HGV3.out.keep hb4)
  have HKV4 := Lib.hid (HKV3.out.keep hb4)
  have HVX4 := Lib.hid (HVX3.out.keep hb4)
  have HB4 := Lib.hid (below_trans HB3.out hb4)
  clear r0 r1 hcc hb4 HGV3 HKV3 HVX3 HVY3 HB3
  have l0 := World.block_lt_of_cell? _ _ x0
  have l1 := World.block_lt_of_cell? _ _ y0
  have l2 := World.block_lt_of_cell? _ _ p0
  cases C
  · have hn : n5 = 0 := by rw [HN5.out, HC0.out rfl]; rfl
    subst hn
    go_wp2_with fail
    go_ret
    exact ⟨rfl, HB4.out⟩
  · obtain ⟨hs, h1, h2, h3⟩ := HL.out rfl
    clear HL HC0 HN5
    obtain ⟨V1, LV⟩ := V
    simp only at h1 p0 ⊢
    subst h1
    have HS1 := Lib.hid (fun (u : World) => (show Calls Try.prog 19 #[_, _] (ext w4 u) (fun e w' => e = .returned (.bool true) ∧ Below (ext w4 u).heap.size (ext w4 u) w') by rw [← hs]; exact implIsSimple _ _ g (V1, LV) _ (HGV4.out.keep (ext_below w4 u)) (HVX4.out.keep (ext_below w4 u))))
    have HS2 := Lib.hid (fun (u : World) => (show Calls Try.prog 20 #[_, _] (ext w4 u) (fun e w' => e = .returned (.int .i64 (walkEnd g (V1, L))) ∧ Below (ext w4 u).heap.size (ext w4 u) w') by rw [← h2]; exact implWalkEnd _ _ g (V1, LV) _ (HGV4.out.keep (ext_below w4 u)) (HVX4.out.keep (ext_below w4 u))))
    have HS3 := Lib.hid (fun (u : World) => specWalkEnd _ _ g (V1, L) _ (HGV4.out.keep (ext_below w4 u)) (HKV4.out.keep (ext_below w4 u)))
    have HS4 := Lib.hid (fun (u : World) => specIsSimple _ _ g (V1, L) _ (HGV4.out.keep (ext_below w4 u)) (HKV4.out.keep (ext_below w4 u)))
    have HS5 := Lib.hid (fun (h : isSimple g (V1, L) = true) (u : World) => HCM.out _ _ (V1, L) _ (h3 h ▸ HVX4.out.keep (ext_below w4 u)) (HKV4.out.keep (ext_below w4 u)))
    generalize isSimple g (V1, L) = SB at *
    generalize walkEnd g (V1, L) = E at *
    clear hs h2 h3 HCM
    cases SB
    · go_wp2_with fail
      refine wp_region_ext_lit (by kernel_rfl) (by kernel_rfl) ?_
      repeat (go_big_quiet_step ((first | exact Calls.ext_of (HS1.out _) | exact Calls.ext_of (HS2.out _) | exact Calls.ext_of (HS3.out _) | exact Calls.ext_of (HS4.out _))))
      refine wpQuiet_nil ?_
      intro _ hw'
      obtain ⟨u, hw''⟩ := hw'
      subst hw''
      go_wp2_with fail
      go_ret
      exact ⟨rfl, below_trans HB4.out (ext_below _ _)⟩
    · have HS6 := Lib.hid (HS5.out rfl)
      clear HS5
      go_wp2_with fail
      refine wp_region_ext_lit (by kernel_rfl) (by kernel_rfl) ?_
      repeat (go_big_quiet_step ((first | exact Calls.ext_of (HS1.out _) | exact Calls.ext_of (HS2.out _) | exact Calls.ext_of (HS3.out _) | exact Calls.ext_of (HS4.out _) | exact Calls.ext_of (HS6.out _))))
      refine wpQuiet_nil ?_
      intro _ hw'
      obtain ⟨u, hw''⟩ := hw'
      subst hw''
      go_wp2_with fail
      go_ret
      exact ⟨rfl, below_trans HB4.out (ext_below _ _)⟩
end Go.Proofs.Ytallglnmeeahiaa.fnCutCycles

namespace Go.Proofs.Ytallglnmeeahiaa.fnCutCycles
set_option linter.unusedVariables false
set_option linter.unusedSimpArgs false
open Go.ChangeShapes Go.WideShapes Go.ChangeAt Go.RowKit
/-! ### The row -/
theorem own : ownKnob Try.prog.godebug = none := by kernel_rfl
theorem laidOut : laidOutB Try.prog = true := by kernel_rfl
set_option maxRecDepth 100000 in
theorem lifted (os : Os) (started : os.Started) (H : Type) (enc : TypeId × Value → H) :
    ReturnsInHanded {} Try.checked os 4 .any (Rows.fnCutCyclesSpec.pre6 enc Try.prog Try.f4 Rows.fnCutCyclesRow.domain false) (Rows.fnCutCyclesSpec.post enc Try.prog Try.f4 false true false false) := by
  refine returnsInHanded_of_change (C := Try.checked) own started (by kernel_rfl) Try.func4
    (ChangeSpec.witness6 (enc := enc) (C := Try.checked) false ⟨#[], #[.slice none 0 0], []⟩ 8 (by kernel_rfl) (by kernel_rfl) (by kernel_rfl) (by kernel_rfl)) ?_
  intro W base args ds gs before hval0 hW hcnd _
  have hval : ∀ (j : Nat) t v, Try.f4.params[j]? = some t → args[j]? = some v → Value.okWide Try.prog W .any base t v := hval0
  have hW' := hW
  obtain ⟨p, q, hA0, hV, rfl, hfz, hnd⟩ := hW
  have hA : DataW.TrodAll enc Try.prog W 0 (fun _ => true) true Try.f4.params.toList args.toList ds p := hA0
  rw [Try.params4] at hA hval
  obtain ⟨v0, vs0, d0, ds0, p0, q0, hargs, rfl, rfl, h0, r0⟩ := trodAll_cons hA
  obtain ⟨rfl, rfl, rfl⟩ := trodAll_nil r0
  obtain rfl : args = #[v0] := by cases args; simp_all
  obtain ⟨rfl, rfl⟩ := trodVars_none hV
  obtain ⟨a0, w0⟩ := openBytes (hval 0 22 v0 rfl rfl) h0
  refine (walk W v0 a0 w0).mono fun e W' ⟨he, hb⟩ => ?_
  subst he
  exact ⟨_, rfl, law_post laidOut (by kernel_rfl) rfl Try.underlying4 rfl rfl hW' hb⟩
theorem unf : Try.pinned.checked.prog.unfollowed 4 = true := by kernel_rfl
theorem inpl : Try.pinned.checked.prog.inPlace 4 = [] := by kernel_rfl
theorem vnam : Try.pinned.checked.prog.varsNamed 4 = [] := by kernel_rfl
theorem rec_ : Try.pinned.checked.prog.recurses 4 = true := by rw [Program.recurses, unf, Bool.true_or]
theorem over : Rows.fnCutCyclesRow.holds Try.pinned (OpenSpec.ofChange Rows.fnCutCyclesSpec) :=
  OpenClaim.holds_of_wide 4 Try.f4 rfl rfl rfl rfl rfl rfl rfl ⟨rfl, rfl, rfl, rfl, rfl⟩ rfl rfl rfl rfl rfl (by kernel_rfl) Try.func4 (by unfold joinedFacts; rw [seat_mayEnter, seat_lifts, seat_laidOut, seat_mapsRowed, unf, rec_, inpl, vnam]; kernel_rfl)
    (of_decide_eq_true (by kernel_rfl)) (by unfold Func.isWrapper; first | (rw [if_pos (by decide +kernel)]; kernel_rfl) | (rw [if_neg (by decide +kernel)]; exact ⟨rfl, rfl⟩))
    (fun os started H enc _ => lifted os started H enc)
theorem proved : Rows.FnCutCyclesSaid := over
end Go.Proofs.Ytallglnmeeahiaa.fnCutCycles

