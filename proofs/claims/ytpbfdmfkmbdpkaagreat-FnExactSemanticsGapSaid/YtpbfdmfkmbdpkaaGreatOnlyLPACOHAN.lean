/- Parts of the proof, joined into one text: GapI, GapS, Rec, Seat. -/
import Derived.Test.YtpbfdmfkmbdpkaaGreatOnlyNBAIGFLL
import Derived.JoinedOf
import Derived.Test.YtpbfdmfkmbdpkaaGreatRows
namespace Go.Proofs.YtpbfdmfkmbdpkaaGreat
set_option linter.unusedVariables false
set_option linter.unusedSimpArgs false
open Go.ChangeShapes Go.WideShapes Go.ChangeAt Go.RowKit
attribute [local go_sem] ext_cell ext_frozen ext_lt ext_lt1 ext_lt2 ext_lt3 ltn2 ltn3 ltn13 lts1 lts2 lts3
set_option maxHeartbeats 8000000 in
set_option maxRecDepth 100000 in
theorem implSemanticsGap (vg va : Value) (g : Gr) (a : Au) (w : World) (hgv : GrV 0 w.heap.size w vg g) (hav : AuV 0 w.heap.size w va a) :
    Calls Tryz.prog 19 #[vg, va] w fun e w' => ∃ v0 v1, e = .returned (.tuple #[v0, v1, .bool (gapOk g a)]) ∧ Two w.heap.size w'.heap.size w' v0 v1 (gapW g a) (gapT g a) ∧ Below w.heap.size w w' := by
  have hgv0 := hgv
  have hav0 := hav
  obtain ⟨A1, n1, c1, A2, n2, c2, rfl⟩ := hgv.shape
  obtain ⟨A3, n3, c3, A4, n4, c4, rfl⟩ := hav.shape
  have hb0 : Below w.heap.size w ((w.alloc (.cells #[.slice A1 n1 c1, .slice A2 n2 c2] 36)).alloc (.cells #[.int .i64 a.start, .slice A3 n3 c3, .slice A4 n4 c4] 38)) := ((Below.refl _ _).alloc (Nat.le_refl _) _).alloc (by simp) _
  have hbG := ((Blk.new w 36 #[.slice A1 n1 c1, .slice A2 n2 c2] w.heap.size rfl).alloc (.cells #[.int .i64 a.start, .slice A3 n3 c3, .slice A4 n4 c4] 38))
  have hbA := (Blk.new (w.alloc (.cells #[.slice A1 n1 c1, .slice A2 n2 c2] 36)) 38 #[.int .i64 a.start, .slice A3 n3 c3, .slice A4 n4 c4] (w.heap.size + 1) (by simp))
  have HBG := Lib.hid hbG
  have HBA := Lib.hid hbA
  have HGV := Lib.hid hgv0
  have HAV := Lib.hid hav0
  have HB0 := Lib.hid hb0
  clear hgv hav hgv0 hav0 hb0 hbG hbA
  have hT := fun (W : World) (hW : Below w.heap.size w W) => implTrailAnswers _ _ g a 20000 W (HGV.out.keep hW) (HAV.out.keep hW)
  have hS := fun (W : World) (hW : Below w.heap.size w W) => implSimplePathAnswers _ _ g a 20000 W (HGV.out.keep hW) (HAV.out.keep hW)
  have hAA := fun (W : World) (hW : Below w.heap.size w W) => implAllAnswers _ _ g a W (HGV.out.keep hW) (HAV.out.keep hW)
  have hlT := srchA_get g a 20000 false
  have hlA := allL_len g a
  obtain ⟨LT, hLT⟩ : ∃ LT, LT = (srchA g a 20000 false).getD [] := ⟨_, rfl⟩
  obtain ⟨LS, hLS⟩ : ∃ LS, LS = (srchA g a 20000 true).getD [] := ⟨_, rfl⟩
  obtain ⟨LA, hLA⟩ : ∃ LA, LA = allL g a := ⟨_, rfl⟩
  obtain ⟨bt, hbt⟩ : ∃ bt, bt = (srchA g a 20000 false).isSome := ⟨_, rfl⟩
  obtain ⟨bs, hbs⟩ : ∃ bs, bs = (srchA g a 20000 true).isSome := ⟨_, rfl⟩
  have hok : gapOk g a = (bt && bs) := by rw [gapOk, hbt, hbs]
  obtain ⟨R0, hR0⟩ : ∃ R0, R0 = gapW g a := ⟨_, rfl⟩
  obtain ⟨R1, hR1⟩ : ∃ R1, R1 = gapT g a := ⟨_, rfl⟩
  obtain ⟨BO, hBO⟩ : ∃ BO, BO = gapOk g a := ⟨_, rfl⟩
  have HW := Lib.hid (show R0 = if (bt && bs) = true then subL LA LT else [] by rw [hR0, gapW, hok, hLA, hLT])
  have HG := Lib.hid (show R1 = if (bt && bs) = true then subL LT LS else [] by rw [hR1, gapT, hok, hLT, hLS])
  have HOK := Lib.hid (hBO.trans hok)
  rw [← hLT] at hT hlT
  rw [← hLS] at hS
  rw [← hbt] at hT
  rw [← hbs] at hS
  rw [← hLA] at hAA hlA
  rw [← hR0, ← hR1, ← hBO]
  have HT := Lib.hid hT
  have HS := Lib.hid hS
  have HAA := Lib.hid hAA
  clear hT hS hAA hLT hLS hLA hbt hbs hok hR0 hR1 hBO
  go_enter Tryz.func19, Tryz.ntmps19
  go_wp2_with fail
  refine (HT.out _ HB0.out).mono ?_
  rintro e w1 ⟨v1, rfl, ho1, hb1⟩
  have HB1 := Lib.hid (below_trans HB0.out hb1)
  have HG1 := Lib.hid (HBG.out.keep hb1)
  have HA1 := Lib.hid (HBA.out.keep hb1)
  have x0 : w1.cell? ⟨w.heap.size, 0, none⟩ = some (.slice A1 n1 c1) := (HG1.out).cell 0
  have x1 : w1.cell? ⟨w.heap.size, 1, none⟩ = some (.slice A2 n2 c2) := (HG1.out).cell 1
  have y0 : w1.cell? ⟨w.heap.size + 1, 0, none⟩ = some (.int .i64 a.start) := (HA1.out).cell 0
  have y1 : w1.cell? ⟨w.heap.size + 1, 1, none⟩ = some (.slice A3 n3 c3) := (HA1.out).cell 1
  have y2 : w1.cell? ⟨w.heap.size + 1, 2, none⟩ = some (.slice A4 n4 c4) := (HA1.out).cell 2
  have hs1 := HB1.out.size
  have hsl1 := (ho1.sl cPr_len).all (Nat.le_refl _)
  have HSL1 := Lib.hid hsl1
  clear hb1 ho1 hsl1
  go_wp2_with fail
  refine (HS.out _ HB1.out).mono ?_
  rintro e w2 ⟨v2, rfl, ho2, hb2⟩
  have HB2 := Lib.hid (below_trans HB1.out hb2)
  have HG2 := Lib.hid (HG1.out.keep hb2)
  have HA2 := Lib.hid (HA1.out.keep hb2)
  clear x0 x1 y0 y1 y2
  have x0 : w2.cell? ⟨w.heap.size, 0, none⟩ = some (.slice A1 n1 c1) := (HG2.out).cell 0
  have x1 : w2.cell? ⟨w.heap.size, 1, none⟩ = some (.slice A2 n2 c2) := (HG2.out).cell 1
  have y0 : w2.cell? ⟨w.heap.size + 1, 0, none⟩ = some (.int .i64 a.start) := (HA2.out).cell 0
  have y1 : w2.cell? ⟨w.heap.size + 1, 1, none⟩ = some (.slice A3 n3 c3) := (HA2.out).cell 1
  have y2 : w2.cell? ⟨w.heap.size + 1, 2, none⟩ = some (.slice A4 n4 c4) := (HA2.out).cell 2
  have HSL2 := Lib.hid (SlE.keep HSL1.out hb2)
  have HSM2 := Lib.hid ((ho2.sl cPr_len).all (Nat.le_refl _))
  clear hb2 ho2
  by_cases hbb : (bt && bs) = true
  · rw [Bool.and_eq_true] at hbb
    obtain ⟨rfl, rfl⟩ := hbb
    have E0 := Lib.hid (show R0 = subL LA LT by rw [HW.out]; rfl)
    have E1 := Lib.hid (show R1 = subL LT LS by rw [HG.out]; rfl)
    have EB := Lib.hid (show BO = true by rw [HOK.out]; rfl)
    clear HW HG HOK
    go_wp2_with fail
    refine (HAA.out _ HB2.out).mono ?_
    rintro e w3 ⟨v3, rfl, ho3, hb3⟩
    have HB3 := Lib.hid (below_trans HB2.out hb3)
    have HSL3 := Lib.hid (SlE.keep HSL2.out hb3)
    have HSM3 := Lib.hid (SlE.keep HSM2.out hb3)
    have HSA3 := Lib.hid ((ho3.sl cPr_len).all (Nat.le_refl _))
    clear ho3 hb3
    go_wp2_with fail
    refine (implSubtract _ _ LA LT w3 HSA3.out HSL3.out (by omega)).mono ?_
    rintro e w4 ⟨v4, rfl, ho4, hb4⟩
    have HB4 := Lib.hid (below_trans HB3.out hb4)
    have HSL4 := Lib.hid (SlE.keep HSL3.out hb4)
    have HSM4 := Lib.hid (SlE.keep HSM3.out hb4)
    have HO4 := Lib.hid ho4
    have hs3 := HB3.out.size
    clear ho4 hb4
    go_wp2_with fail
    refine (implSubtract _ _ LT LS w4 HSL4.out HSM4.out (by omega)).mono ?_
    rintro e w5 ⟨v5, rfl, ho5, hb5⟩
    have HB5 := Lib.hid (below_trans HB4.out hb5)
    have HO45 := Lib.hid ((HO4.out.below hb5 (Nat.le_refl _)).mono hs3 (Nat.le_refl _))
    have HO5 := Lib.hid ho5
    have HS5 := Lib.hid hb5.size
    clear ho5 hb5
    go_wp2_with fail
    refine bodyPost_ret (v := .tuple #[v4, v5, .bool true]) (by simp [results, Tryz.results19, go_sem]) rfl ⟨_, _, by rw [EB.out], ?_, HB5.out⟩
    rw [E0.out, E1.out]
    exact ⟨w4.heap.size, HB4.out.size, HS5.out, HO45.out, HO5.out⟩
  · have hbf : (bt && bs) = false := by simpa using hbb
    have E0 := Lib.hid (show R0 = [] by rw [HW.out, hbf]; rfl)
    have E1 := Lib.hid (show R1 = [] by rw [HG.out, hbf]; rfl)
    have EB := Lib.hid (show BO = false by rw [HOK.out, hbf])
    clear HW HG HOK
    clear x0 x1 y0 y1 y2
    have hcase : (bt = false) ∨ (bt = true ∧ bs = false) := by cases bt <;> cases bs <;> simp_all
    clear hbb hbf
    rcases hcase with rfl | ⟨rfl, rfl⟩
    · go_wp2_with fail
      refine bodyPost_ret (v := .tuple #[.slice none 0 0, .slice none 0 0, .bool false]) (by simp [results, Tryz.results19, go_sem]) rfl ⟨_, _, by rw [EB.out], ?_, HB2.out⟩
      rw [E0.out, E1.out]
      exact ⟨w.heap.size, Nat.le_refl _, HB2.out.size, Own.nil _ _ _ _ _ _, Own.nil _ _ _ _ _ _⟩
    · go_wp2_with fail
      refine bodyPost_ret (v := .tuple #[.slice none 0 0, .slice none 0 0, .bool false]) (by simp [results, Tryz.results19, go_sem]) rfl ⟨_, _, by rw [EB.out], ?_, HB2.out⟩
      rw [E0.out, E1.out]
      exact ⟨w.heap.size, Nat.le_refl _, HB2.out.size, Own.nil _ _ _ _ _ _, Own.nil _ _ _ _ _ _⟩
end Go.Proofs.YtpbfdmfkmbdpkaaGreat
namespace Go.Proofs.YtpbfdmfkmbdpkaaGreat
set_option linter.unusedVariables false
set_option linter.unusedSimpArgs false
open Go.ChangeShapes Go.WideShapes Go.ChangeAt Go.RowKit
attribute [local go_sem] ext_cell ext_frozen ext_lt ext_lt1 ext_lt2 ext_lt3 ltn2 ltn3 ltn13 lts1 lts2 lts3
set_option maxHeartbeats 8000000 in
set_option maxRecDepth 100000 in
theorem specSemanticsGap (vg va : Value) (g : Gr) (a : Au) (w : World) (hgv : GrV 0 w.heap.size w vg g) (hav : AuV 0 w.heap.size w va a) :
    Calls Tryz.prog 18 #[vg, va] w fun e w' => ∃ v0 v1, e = .returned (.tuple #[v0, v1, .bool (gapOk g a)]) ∧ Two w.heap.size w'.heap.size w' v0 v1 (gapW g a) (gapT g a) ∧ Below w.heap.size w w' := by
  have hgv0 := hgv
  have hav0 := hav
  obtain ⟨A1, n1, c1, A2, n2, c2, rfl⟩ := hgv.shape
  obtain ⟨A3, n3, c3, A4, n4, c4, rfl⟩ := hav.shape
  have hb0 : Below w.heap.size w ((w.alloc (.cells #[.slice A1 n1 c1, .slice A2 n2 c2] 36)).alloc (.cells #[.int .i64 a.start, .slice A3 n3 c3, .slice A4 n4 c4] 38)) := ((Below.refl _ _).alloc (Nat.le_refl _) _).alloc (by simp) _
  have hbG := ((Blk.new w 36 #[.slice A1 n1 c1, .slice A2 n2 c2] w.heap.size rfl).alloc (.cells #[.int .i64 a.start, .slice A3 n3 c3, .slice A4 n4 c4] 38))
  have hbA := (Blk.new (w.alloc (.cells #[.slice A1 n1 c1, .slice A2 n2 c2] 36)) 38 #[.int .i64 a.start, .slice A3 n3 c3, .slice A4 n4 c4] (w.heap.size + 1) (by simp))
  have HBG := Lib.hid hbG
  have HBA := Lib.hid hbA
  have HGV := Lib.hid hgv0
  have HAV := Lib.hid hav0
  have HB0 := Lib.hid hb0
  clear hgv hav hgv0 hav0 hb0 hbG hbA
  have hT := fun (W : World) (hW : Below w.heap.size w W) => specTrailAnswers _ _ g a 20000 W (HGV.out.keep hW) (HAV.out.keep hW)
  have hS := fun (W : World) (hW : Below w.heap.size w W) => specSimplePathAnswers _ _ g a 20000 W (HGV.out.keep hW) (HAV.out.keep hW)
  have hAA := fun (W : World) (hW : Below w.heap.size w W) => specAllAnswers _ _ g a W (HGV.out.keep hW) (HAV.out.keep hW)
  have hlT := srchA_get g a 20000 false
  have hlA := allL_len g a
  obtain ⟨LT, hLT⟩ : ∃ LT, LT = (srchA g a 20000 false).getD [] := ⟨_, rfl⟩
  obtain ⟨LS, hLS⟩ : ∃ LS, LS = (srchA g a 20000 true).getD [] := ⟨_, rfl⟩
  obtain ⟨LA, hLA⟩ : ∃ LA, LA = allL g a := ⟨_, rfl⟩
  obtain ⟨bt, hbt⟩ : ∃ bt, bt = (srchA g a 20000 false).isSome := ⟨_, rfl⟩
  obtain ⟨bs, hbs⟩ : ∃ bs, bs = (srchA g a 20000 true).isSome := ⟨_, rfl⟩
  have hok : gapOk g a = (bt && bs) := by rw [gapOk, hbt, hbs]
  obtain ⟨R0, hR0⟩ : ∃ R0, R0 = gapW g a := ⟨_, rfl⟩
  obtain ⟨R1, hR1⟩ : ∃ R1, R1 = gapT g a := ⟨_, rfl⟩
  obtain ⟨BO, hBO⟩ : ∃ BO, BO = gapOk g a := ⟨_, rfl⟩
  have HW := Lib.hid (show R0 = if (bt && bs) = true then subL LA LT else [] by rw [hR0, gapW, hok, hLA, hLT])
  have HG := Lib.hid (show R1 = if (bt && bs) = true then subL LT LS else [] by rw [hR1, gapT, hok, hLT, hLS])
  have HOK := Lib.hid (hBO.trans hok)
  rw [← hLT] at hT hlT
  rw [← hLS] at hS
  rw [← hbt] at hT
  rw [← hbs] at hS
  rw [← hLA] at hAA hlA
  rw [← hR0, ← hR1, ← hBO]
  have HT := Lib.hid hT
  have HS := Lib.hid hS
  have HAA := Lib.hid hAA
  clear hT hS hAA hLT hLS hLA hbt hbs hok hR0 hR1 hBO
  go_enter Tryz.func18, Tryz.ntmps18
  go_wp2_with fail
  refine (HT.out _ HB0.out).mono ?_
  rintro e w1 ⟨v1, rfl, ho1, hb1⟩
  have HB1 := Lib.hid (below_trans HB0.out hb1)
  have HG1 := Lib.hid (HBG.out.keep hb1)
  have HA1 := Lib.hid (HBA.out.keep hb1)
  have x0 : w1.cell? ⟨w.heap.size, 0, none⟩ = some (.slice A1 n1 c1) := (HG1.out).cell 0
  have x1 : w1.cell? ⟨w.heap.size, 1, none⟩ = some (.slice A2 n2 c2) := (HG1.out).cell 1
  have y0 : w1.cell? ⟨w.heap.size + 1, 0, none⟩ = some (.int .i64 a.start) := (HA1.out).cell 0
  have y1 : w1.cell? ⟨w.heap.size + 1, 1, none⟩ = some (.slice A3 n3 c3) := (HA1.out).cell 1
  have y2 : w1.cell? ⟨w.heap.size + 1, 2, none⟩ = some (.slice A4 n4 c4) := (HA1.out).cell 2
  have hs1 := HB1.out.size
  have hsl1 := (ho1.sl cPr_len).all (Nat.le_refl _)
  have HSL1 := Lib.hid hsl1
  clear hb1 ho1 hsl1
  go_wp2_with fail
  refine (HS.out _ HB1.out).mono ?_
  rintro e w2 ⟨v2, rfl, ho2, hb2⟩
  have HB2 := Lib.hid (below_trans HB1.out hb2)
  have HG2 := Lib.hid (HG1.out.keep hb2)
  have HA2 := Lib.hid (HA1.out.keep hb2)
  clear x0 x1 y0 y1 y2
  have x0 : w2.cell? ⟨w.heap.size, 0, none⟩ = some (.slice A1 n1 c1) := (HG2.out).cell 0
  have x1 : w2.cell? ⟨w.heap.size, 1, none⟩ = some (.slice A2 n2 c2) := (HG2.out).cell 1
  have y0 : w2.cell? ⟨w.heap.size + 1, 0, none⟩ = some (.int .i64 a.start) := (HA2.out).cell 0
  have y1 : w2.cell? ⟨w.heap.size + 1, 1, none⟩ = some (.slice A3 n3 c3) := (HA2.out).cell 1
  have y2 : w2.cell? ⟨w.heap.size + 1, 2, none⟩ = some (.slice A4 n4 c4) := (HA2.out).cell 2
  have HSL2 := Lib.hid (SlE.keep HSL1.out hb2)
  have HSM2 := Lib.hid ((ho2.sl cPr_len).all (Nat.le_refl _))
  clear hb2 ho2
  by_cases hbb : (bt && bs) = true
  · rw [Bool.and_eq_true] at hbb
    obtain ⟨rfl, rfl⟩ := hbb
    have E0 := Lib.hid (show R0 = subL LA LT by rw [HW.out]; rfl)
    have E1 := Lib.hid (show R1 = subL LT LS by rw [HG.out]; rfl)
    have EB := Lib.hid (show BO = true by rw [HOK.out]; rfl)
    clear HW HG HOK
    go_wp2_with fail
    refine (HAA.out _ HB2.out).mono ?_
    rintro e w3 ⟨v3, rfl, ho3, hb3⟩
    have HB3 := Lib.hid (below_trans HB2.out hb3)
    have HSL3 := Lib.hid (SlE.keep HSL2.out hb3)
    have HSM3 := Lib.hid (SlE.keep HSM2.out hb3)
    have HSA3 := Lib.hid ((ho3.sl cPr_len).all (Nat.le_refl _))
    clear ho3 hb3
    go_wp2_with fail
    refine (specSubtract _ _ LA LT w3 HSA3.out HSL3.out (by omega)).mono ?_
    rintro e w4 ⟨v4, rfl, ho4, hb4⟩
    have HB4 := Lib.hid (below_trans HB3.out hb4)
    have HSL4 := Lib.hid (SlE.keep HSL3.out hb4)
    have HSM4 := Lib.hid (SlE.keep HSM3.out hb4)
    have HO4 := Lib.hid ho4
    have hs3 := HB3.out.size
    clear ho4 hb4
    go_wp2_with fail
    refine (specSubtract _ _ LT LS w4 HSL4.out HSM4.out (by omega)).mono ?_
    rintro e w5 ⟨v5, rfl, ho5, hb5⟩
    have HB5 := Lib.hid (below_trans HB4.out hb5)
    have HO45 := Lib.hid ((HO4.out.below hb5 (Nat.le_refl _)).mono hs3 (Nat.le_refl _))
    have HO5 := Lib.hid ho5
    have HS5 := Lib.hid hb5.size
    clear ho5 hb5
    go_wp2_with fail
    refine bodyPost_ret (v := .tuple #[v4, v5, .bool true]) (by simp [results, Tryz.results18, go_sem]) rfl ⟨_, _, by rw [EB.out], ?_, HB5.out⟩
    rw [E0.out, E1.out]
    exact ⟨w4.heap.size, HB4.out.size, HS5.out, HO45.out, HO5.out⟩
  · have hbf : (bt && bs) = false := by simpa using hbb
    have E0 := Lib.hid (show R0 = [] by rw [HW.out, hbf]; rfl)
    have E1 := Lib.hid (show R1 = [] by rw [HG.out, hbf]; rfl)
    have EB := Lib.hid (show BO = false by rw [HOK.out, hbf])
    clear HW HG HOK
    clear x0 x1 y0 y1 y2
    have hcase : (bt = false) ∨ (bt = true ∧ bs = false) := by cases bt <;> cases bs <;> simp_all
    clear hbb hbf
    rcases hcase with rfl | ⟨rfl, rfl⟩
    · have hal := HB2.out.alloc HB2.out.size (.cells #[] 63)
      have hal2 := hal.alloc hal.size (.cells #[] 63)
      have hs2 := HB2.out.size
      have h1 := lit_nilA (w := w2) (lo := w.heap.size) (e := 63) (E := cPr) (k := 2) hs2
      have h2 := lit_nilA (w := w2.alloc (.cells #[] 63)) (lo := (w2.alloc (.cells #[] 63)).heap.size) (e := 63) (E := cPr) (k := 2) (Nat.le_refl _)
      have HAL := Lib.hid hal2
      have H1 := Lib.hid (h1.below ((Below.refl _ _).alloc (Nat.le_refl _) (.cells #[] 63)) (Nat.le_refl _))
      have H2 := Lib.hid h2
      have HZ := Lib.hid hal.size
      clear hal hal2 h1 h2
      go_wp2_with fail
      refine bodyPost_ret (v := .tuple #[.slice (some ⟨w2.heap.size, 0, none⟩) 0 0, .slice (some ⟨w2.heap.size + 1, 0, none⟩) 0 0, .bool false]) (by simp [results, Tryz.results18, go_sem]) rfl ⟨_, _, by rw [EB.out], ?_, HAL.out⟩
      rw [E0.out, E1.out]
      exact ⟨(w2.alloc (.cells #[] 63)).heap.size, HZ.out, by simp, H1.out, by simpa using H2.out⟩
    · have hal := HB2.out.alloc HB2.out.size (.cells #[] 63)
      have hal2 := hal.alloc hal.size (.cells #[] 63)
      have hs2 := HB2.out.size
      have h1 := lit_nilA (w := w2) (lo := w.heap.size) (e := 63) (E := cPr) (k := 2) hs2
      have h2 := lit_nilA (w := w2.alloc (.cells #[] 63)) (lo := (w2.alloc (.cells #[] 63)).heap.size) (e := 63) (E := cPr) (k := 2) (Nat.le_refl _)
      have HAL := Lib.hid hal2
      have H1 := Lib.hid (h1.below ((Below.refl _ _).alloc (Nat.le_refl _) (.cells #[] 63)) (Nat.le_refl _))
      have H2 := Lib.hid h2
      have HZ := Lib.hid hal.size
      clear hal hal2 h1 h2
      go_wp2_with fail
      refine bodyPost_ret (v := .tuple #[.slice (some ⟨w2.heap.size, 0, none⟩) 0 0, .slice (some ⟨w2.heap.size + 1, 0, none⟩) 0 0, .bool false]) (by simp [results, Tryz.results18, go_sem]) rfl ⟨_, _, by rw [EB.out], ?_, HAL.out⟩
      rw [E0.out, E1.out]
      exact ⟨(w2.alloc (.cells #[] 63)).heap.size, HZ.out, by simp, H1.out, by simpa using H2.out⟩
end Go.Proofs.YtpbfdmfkmbdpkaaGreat
namespace Go.Proofs.YtpbfdmfkmbdpkaaGreat
set_option linter.unusedVariables false
set_option linter.unusedSimpArgs false
end Go.Proofs.YtpbfdmfkmbdpkaaGreat
namespace Go.Proofs.YtpbfdmfkmbdpkaaGreat
set_option linter.unusedVariables false
set_option linter.unusedSimpArgs false
theorem seat_mayEnter : Tryz.pinned.checked.prog.mayEnter = true := by kernel_rfl
theorem seat_lifts : Tryz.pinned.checked.prog.liftsFinal = false := by kernel_rfl
theorem seat_laidOut : laidOutB Tryz.pinned.checked.prog = true := by kernel_rfl
theorem seat_mapsRowed : mapsRowed Tryz.pinned.checked.prog = true := by kernel_rfl
end Go.Proofs.YtpbfdmfkmbdpkaaGreat
