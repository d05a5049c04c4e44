/- Parts of the proof, joined into one text: SrchA, Pick, AnsI, AnsT, Tab. -/
import Derived.Test.YtpbfdmfkmbdpkaaGreatOnlyFIIKIIGF
import Derived.Test.YtpbfdmfkmbdpkaaGreatOnlyFEMGEBNP
import Derived.Test.YtpbfdmfkmbdpkaaGreatOnlyJFOLKHJE
import Derived.Test.YtpbfdmfkmbdpkaaGreatOnlyOFHCLODM
import Derived.Test.YtpbfdmfkmbdpkaaGreatOnlyAOJFLCEP
import Derived.Test.YtpbfdmfkmbdpkaaGreatOnlyDNMGAIAE
import Derived.Test.YtpbfdmfkmbdpkaaGreatOnlyOKLGJAAM
import Derived.Test.YtpbfdmfkmbdpkaaGreatOnlyIPOAJNAI
import Derived.Lib.Slices
namespace Go.Proofs.YtpbfdmfkmbdpkaaGreat
set_option linter.unusedVariables false
set_option linter.unusedSimpArgs false
open Go.ChangeShapes Go.WideShapes Go.ChangeAt Go.RowKit
attribute [local go_sem] ext_cell ext_frozen ext_lt ext_lt1 ext_lt2 ext_lt3 ltn2 ltn3 ltn13 lts1 lts2 lts3
theorem srchA_get (g : Gr) (a : Au) (B : Int) (sm : Bool) : ((srchA g a B sm).getD []).length ≤ 25 := by
  cases h : srchA g a B sm with
  | none => simp
  | some L => exact srchA_len h
theorem lit_nilA {w : World} {lo : Nat} {e : TypeId} {α : Type} {E : α → List Value} {k : Nat} (hl : lo ≤ w.heap.size) : Own lo (w.alloc (.cells #[] e)).heap.size (w.alloc (.cells #[] e)) e E k (.slice (some ⟨w.heap.size, 0, none⟩) 0 0) ([] : List α) :=
  Own.of_row (n := 0) (cs := []) ⟨by simp, .inr ⟨w.heap.size, 0, #[], rfl, hl, heap_alloc_new w _, Nat.le_refl _, by unfold maxLen; omega, by simp, by simp⟩⟩ rfl rfl
set_option maxHeartbeats 4000000 in
set_option maxRecDepth 100000 in
theorem cl_TrailAnswers (g : Gr) (a : Au) (x y BI : Int) (b0 b1 b2 : Nat) (A1 A2 A3 A4 : Option Addr) (n1 c1 n2 c2 n3 c3 n4 c4 : Nat) (W : World) (x0 : W.cell? ⟨b0, 0, none⟩ = some (.slice A1 n1 c1)) (x1 : W.cell? ⟨b0, 1, none⟩ = some (.slice A2 n2 c2)) (y0 : W.cell? ⟨b1, 0, none⟩ = some (.int .i64 a.start)) (y1 : W.cell? ⟨b1, 1, none⟩ = some (.slice A3 n3 c3)) (y2 : W.cell? ⟨b1, 2, none⟩ = some (.slice A4 n4 c4)) (q0 : W.cell? ⟨b2, 0, none⟩ = some (.int .i64 BI))
    (l0 : b0 < W.heap.size) (l1 : b1 < W.heap.size) (l2 : b2 < W.heap.size) (hgv : GrV 0 W.heap.size W (.agg #[.slice A1 n1 c1, .slice A2 n2 c2]) g) (hav : AuV 0 W.heap.size W (.agg #[.int .i64 a.start, .slice A3 n3 c3, .slice A4 n4 c4]) a) :
    Calls Tryz.prog 71 #[.int .i64 x, .int .i64 y, .pointer (some ⟨b0, 0, none⟩), .pointer (some ⟨b1, 0, none⟩), .pointer (some ⟨b2, 0, none⟩)] W fun e W' => e = .returned (.int .i64 (srchL g a x y BI false).2) ∧ Below W.heap.size W W' := by
  have HC := Lib.hid (implSearchTrail _ _ g a x y BI W hgv hav)
  generalize srchL g a x y BI false = R at *
  clear hgv hav
  go_enter Tryz.func71, Tryz.ntmps71
  go_wp2_with fail
  refine HC.out.mono ?_
  rintro e w1 ⟨v1, rfl, ⟨ss, rfl, hown⟩, hb1⟩
  obtain ⟨A9, n9, c9, rfl⟩ := hown.shape
  clear hown HC
  go_wp2_with fail
  go_ret
  exact ⟨rfl, hb1.alloc hb1.size _⟩
set_option maxHeartbeats 4000000 in
set_option maxRecDepth 100000 in
theorem found_TrailAnswers (g : Gr) (f : Nat → Nat → Int) (b0 b1 b2 : Nat) (vg : Value) (w : World) (hgv : GrV 0 w.heap.size w vg g) (hn5 : g.vals.length ≤ 5)
    (hcl : ∀ (x y : Nat) (W : World), Below w.heap.size w W → Calls Tryz.prog 71 #[.int .i64 (x : Int), .int .i64 (y : Int), .pointer (some ⟨b0, 0, none⟩), .pointer (some ⟨b1, 0, none⟩), .pointer (some ⟨b2, 0, none⟩)] W fun e W' => e = .returned (.int .i64 (f x y)) ∧ Below W.heap.size W W') :
    Calls Tryz.prog 70 #[vg, .func (Fn.func 71) #[] #[.pointer (some ⟨b0, 0, none⟩), .pointer (some ⟨b1, 0, none⟩), .pointer (some ⟨b2, 0, none⟩)]] w fun e w' => ∃ v', e = .returned (.tuple #[v', .bool (srAllF f g.vals.length g.vals.length).isSome]) ∧
      Own w.heap.size w'.heap.size w' 63 cPr 2 v' ((srAllF f g.vals.length g.vals.length).getD []) ∧ Below w.heap.size w w' := by
  obtain ⟨A1, c1, A2, c2, rfl, hl1, hm1, hl2, hm2, -, -⟩ := hgv.form
  clear hgv
  generalize g.vals.length = N at *
  obtain ⟨R, hR⟩ : ∃ R, R = srAllF f N N := ⟨_, rfl⟩
  rw [← hR]
  have HR := Lib.hid hR
  have HCL := Lib.hid hcl
  clear hR hcl
  go_enter Tryz.func70, Tryz.ntmps70
  go_wp2_with fail
  obtain ⟨gO, hgO⟩ : ∃ gO, gO = w.heap.size + 1 := ⟨_, rfl⟩
  obtain ⟨W0, hW0⟩ : ∃ W0, W0 = (w.alloc (.cells #[.slice A1 N c1, .slice A2 g.edges.length c2] 36)).alloc (.cells #[] 63) := ⟨_, rfl⟩
  have hb0 : Below w.heap.size w W0 := by rw [hW0]; exact ((Below.refl _ _).alloc (Nat.le_refl _) _).alloc (by simp) _
  have bx : Blk W0 w.heap.size 36 #[.slice A1 N c1, .slice A2 g.edges.length c2] := by rw [hW0]; exact (Blk.new w _ _ w.heap.size rfl).alloc _
  have hrow0 : W0.ownsRow gO 63 2 (.slice (some ⟨gO, 0, none⟩) 0 0) ([] : List Pr).length (([] : List Pr).flatMap cPr) := by
    rw [hW0, hgO]
    have h := World.ownsRow_lit (base := w.heap.size + 1) (e := 63) (size := 2) (w.alloc (.cells #[.slice A1 N c1, .slice A2 g.edges.length c2] 36)) #[] 0 (by simp) (by decide) rfl
    simpa using h
  have hsW : gO < W0.heap.size := by rw [hW0, hgO]; simp
  have x0 : W0.cell? ⟨w.heap.size, 0, none⟩ = some (.slice A1 N c1) := bx.cell 0
  have x1 : W0.cell? ⟨w.heap.size, 1, none⟩ = some (.slice A2 g.edges.length c2) := bx.cell 1
  have hg1 : w.heap.size + 1 ≤ gO := by omega
  have hwg : w.heap.size < gO := by omega
  rw [← hW0, ← hgO]
  have l0 : w.heap.size < W0.heap.size := by omega
  have HROW0 := Lib.hid hrow0
  have HB0 := Lib.hid hb0
  clear hW0 hgO bx hrow0 hb0
  try go_wp2_with fail
  go_loopw [6, 13] (fun oo ii wr => ∃ (i : Nat) (L : List Pr), i ≤ N ∧ ii = .int .i64 (i : Int) ∧ srAllF f N i = some L ∧ wr.ownsRow gO 63 2 oo L.length (L.flatMap cPr) ∧ Below gO W0 wr) (fun _ ii _ => N - (intOf ii).toNat)
  case atStart => exact ⟨0, [], Nat.zero_le _, rfl, rfl, HROW0.out, Below.refl _ _⟩
  case round =>
    clear HROW0
    obtain ⟨i, L, hi, rfl, hL, hrow, hbel⟩ := hrel
    have HL := Lib.hid hL
    have HROW := Lib.hid hrow
    have HBEL := Lib.hid hbel
    have hsz := hbel.size
    clear hL hrow hbel
    by_cases hlt : i < N
    · have hii : (i : Int) < (N : Int) := by omega
      have x0 := (HBEL.out.cell (p := ⟨w.heap.size, 0, none⟩) (by simp only; omega)).trans x0
      have x1 := (HBEL.out.cell (p := ⟨w.heap.size, 1, none⟩) (by simp only; omega)).trans x1
      have l0 : w.heap.size < wr.heap.size := by omega
      obtain ⟨wo, rfl⟩ : ∃ wo : World, wo = wr := ⟨_, rfl⟩
      go_wp2_with fail
      go_loopw [6, 19] (fun oo jj wr => ∃ (j : Nat) (M : List Pr), j ≤ N ∧ jj = .int .i64 (j : Int) ∧ srRowF f i (srAllF f N i) j = some M ∧ wr.ownsRow gO 63 2 oo M.length (M.flatMap cPr) ∧ Below gO W0 wr) (fun _ jj _ => N - (intOf jj).toNat)
      case atStart => exact ⟨0, L, Nat.zero_le _, rfl, HL.out, HROW.out, HBEL.out⟩
      case round =>
        clear HROW HBEL hsz l0 x0 x1
        obtain ⟨j, M, hj, rfl, hM, hrow2, hbel2⟩ := hrel
        have HM := Lib.hid hM
        have HROW2 := Lib.hid hrow2
        have HBEL2 := Lib.hid hbel2
        have hsz2 := hbel2.size
        have HBW2 := Lib.hid (HB0.out.trans (hbel2.mono (show w.heap.size ≤ gO by omega)))
        have hml := srRowF_len (f := f) (x := i) (st := srAllF f N i) (n := 25) (fun L2 h2 => by have h3 := srAllF_len i L2 h2; have h4 : i * N ≤ 5 * 5 := Nat.mul_le_mul (by omega) hn5; omega) j M hM
        clear hM hrow2 hbel2
        by_cases hlj : j < N
        · have hjj : (j : Int) < (N : Int) := by omega
          have HC1 := Lib.hid (fun h => srRowF_one (f := f) (x := i) HM.out h)
          have HC0 := Lib.hid (fun h h2 => srRowF_on (f := f) (x := i) HM.out h h2)
          have HC3 := Lib.hid (fun h => srAllF_out (f := f) hlt hlj HM.out h)
          have HCX := Lib.hid (HCL.out i j wr HBW2.out)
          generalize f i j = c at *
          go_wp2_with fail
          refine HCX.out.mono ?_
          rintro e w5 ⟨rfl, hb5⟩
          have hb6 := HBEL2.out.trans (hb5.mono (show gO ≤ wr.heap.size by omega))
          have HR5 := Lib.hid (ownsRow_below HROW2.out hb5 (Nat.le_refl _))
          have HB6 := Lib.hid hb6
          have hs6 := hb6.size
          clear hb5 hb6
          by_cases h1 : c = 1
          · have k1 : (c == 1) = true := by simp [h1]
            have k2 : decide (c = 1) = true := by simp [h1]
            have HN1 := Lib.hid (HC1.out h1)
            subst h1
            clear HC1 HC0 HC3
            go_wp2_with (at_builtin; (refine wpList_append1 cPr elPair rfl _ _ rfl gO _ M ((i : Int), (j : Int)) _ 1 w5.heap.size (by rfl) HR5.out (by rfl) rfl rfl rfl (cPr_one _) (by omega) (by omega) (by omega) ?_); intro v' w7 hrow7 hb7 _ _)
            go_roundw
            case rel => exact ⟨j + 1, _, by omega, by go_num, HN1.out, hrow7, HB6.out.trans hb7⟩
            case measure => simp [intOf]; omega
          · have k1 : (c == 1) = false := by simp [h1]
            have k2 : decide (c = 1) = false := by simp [h1]
            by_cases h3 : c = 3
            · have k3 : (c == 3) = true := by simp [h3]
              have k4 : decide (c = 3) = true := by simp [h3]
              have HN3 := Lib.hid (HR.out.trans (HC3.out h3))
              clear HC1 HC0 HC3 h1
              subst h3
              have HBF := Lib.hid (HB0.out.trans (HB6.out.mono (show w.heap.size ≤ gO by omega)))
              go_wp2_with fail
              go_ret2
              rw [HN3.out]
              exact ⟨_, rfl, Own.nil _ _ _ _ _ _, HBF.out⟩
            · have k3 : (c == 3) = false := by simp [h3]
              have k4 : decide (c = 3) = false := by simp [h3]
              have HN0 := Lib.hid (HC0.out h1 h3)
              clear HC1 HC0 HC3 h1 h3
              go_wp2_with fail
              go_roundw
              case rel => exact ⟨j + 1, _, by omega, by go_num, HN0.out, HR5.out, HB6.out⟩
              case measure => simp [intOf]; omega
        · obtain rfl : j = N := by omega
          rw [← srAllF_succ] at HM
          go_wp2_with fail
          go_roundw
          case rel => exact ⟨i + 1, _, by omega, by go_num, HM.out, HROW2.out, HBEL2.out⟩
          case measure => simp [intOf]; omega
    · obtain rfl : i = N := by omega
      have hRe := HR.out.trans HL.out
      have HRE := Lib.hid hRe
      have HBF := Lib.hid (HB0.out.trans (HBEL.out.mono (show w.heap.size ≤ gO by omega)))
      have HOF := Lib.hid ((Own.of_row (xs := L) HROW.out rfl rfl).mono (show w.heap.size ≤ gO by omega) (Nat.le_refl _))
      clear hRe
      go_wp2_with fail
      go_ret2
      rw [HRE.out]
      exact ⟨_, rfl, HOF.out, HBF.out⟩
set_option maxHeartbeats 4000000 in
set_option maxRecDepth 100000 in
theorem implTrailAnswers (vg va : Value) (g : Gr) (a : Au) (BI : Int) (w : World) (hgv : GrV 0 w.heap.size w vg g) (hav : AuV 0 w.heap.size w va a) :
    Calls Tryz.prog 49 #[vg, va, .int .i64 BI] w fun e w' => ∃ v', e = .returned (.tuple #[v', .bool (srchA g a BI false).isSome]) ∧ Own w.heap.size w'.heap.size w' 63 cPr 2 v' ((srchA g a BI false).getD []) ∧ Below w.heap.size w w' := by
  have hgv0 := hgv
  have hav0 := hav
  obtain ⟨A1, n1, c1, A2, n2, c2, rfl⟩ := hgv.shape
  obtain ⟨A3, n3, c3, A4, n4, c4, rfl⟩ := hav.shape
  have hb0 : Below w.heap.size w (((w.alloc (.cells #[.slice A1 n1 c1, .slice A2 n2 c2] 36)).alloc (.cells #[.int .i64 a.start, .slice A3 n3 c3, .slice A4 n4 c4] 38)).alloc (.cells #[.int .i64 BI] 3)) := (((Below.refl _ _).alloc (Nat.le_refl _) _).alloc (by simp) _).alloc (by simp; omega) _
  have bG := ((Blk.new w 36 #[.slice A1 n1 c1, .slice A2 n2 c2] w.heap.size rfl).alloc (.cells #[.int .i64 a.start, .slice A3 n3 c3, .slice A4 n4 c4] 38)).alloc (.cells #[.int .i64 BI] 3)
  have bA := (Blk.new (w.alloc (.cells #[.slice A1 n1 c1, .slice A2 n2 c2] 36)) 38 #[.int .i64 a.start, .slice A3 n3 c3, .slice A4 n4 c4] (w.heap.size + 1) (by simp)).alloc (.cells #[.int .i64 BI] 3)
  have bB := Blk.new ((w.alloc (.cells #[.slice A1 n1 c1, .slice A2 n2 c2] 36)).alloc (.cells #[.int .i64 a.start, .slice A3 n3 c3, .slice A4 n4 c4] 38)) 3 #[.int .i64 BI] (w.heap.size + 1 + 1) (by simp)
  have HBO := Lib.hid (bothOk_any _ _ (.slice none 0 0) g a [] _ (hgv0.keep hb0) (hav0.keep hb0) (SlI.nil _ _ _ _ _))
  have HGV := Lib.hid hgv0
  have HAV := Lib.hid hav0
  have HB0 := Lib.hid hb0
  have HBG := Lib.hid bG
  have HBA := Lib.hid bA
  have HBB := Lib.hid bB
  obtain ⟨R, hR⟩ : ∃ R, R = srchA g a BI false := ⟨_, rfl⟩
  rw [← hR]
  have HR := Lib.hid hR
  simp only [List.all_nil, Bool.true_and] at HBO
  clear hgv hav hgv0 hav0 hb0 bG bA bB hR
  cases hgo : (grOk g && auOk a) with
  | false =>
    rw [hgo] at HBO
    have HF := Lib.hid (HR.out.trans (show srchA g a BI false = none by rw [srchA, if_neg]; rw [srchAk, hgo]; simp))
    clear hgo HR
    go_enter Tryz.func49, Tryz.ntmps49
    go_wp2_with fail
    refine HBO.out.mono ?_
    rintro e w1 ⟨rfl, hb1⟩
    go_wp2_with fail
    go_ret2
    rw [HF.out]
    exact ⟨_, rfl, Own.nil _ _ _ _ _ _, below_trans HB0.out hb1⟩
  | true =>
    rw [hgo] at HBO
    cases hwB : wi BI 1 20000 with
    | false =>
      have HF := Lib.hid (HR.out.trans (show srchA g a BI false = none by rw [srchA, if_neg]; rw [srchAk, hwB]; simp))
      have HW := Lib.hid (fun W => within_any BI 1 20000 W)
      rw [hwB] at HW
      clear hgo HR hwB
      go_enter Tryz.func49, Tryz.ntmps49
      go_wp2_with fail
      refine HBO.out.mono ?_
      rintro e w1 ⟨rfl, hb1⟩
      have q0 : w1.cell? ⟨w.heap.size + 1 + 1, 0, none⟩ = some (.int .i64 BI) := (HBB.out.keep hb1).cell 0
      have l2 := (HBB.out.keep hb1).lt
      go_wp2_with fail
      refine (HW.out _).mono ?_
      rintro e w9 ⟨rfl, hw9⟩
      rw [hw9]
      clear hw9
      go_wp2_with fail
      go_ret2
      rw [HF.out]
      exact ⟨_, rfl, Own.nil _ _ _ _ _ _, below_trans HB0.out hb1⟩
    | true =>
      have HF := Lib.hid (HR.out.trans (show srchA g a BI false = srAllF (srchC g a BI false) g.vals.length g.vals.length by rw [srchA, if_pos]; rw [srchAk, hgo, hwB]; rfl))
      have HW := Lib.hid (fun W => within_any BI 1 20000 W)
      rw [hwB] at HW
      simp only [Bool.and_eq_true] at hgo
      have hn5 := (grOk_iff.1 hgo.1).n5
      clear hgo HR hwB
      go_enter Tryz.func49, Tryz.ntmps49
      go_wp2_with fail
      refine HBO.out.mono ?_
      rintro e w1 ⟨rfl, hb1⟩
      have bG := HBG.out.keep hb1
      have bA := HBA.out.keep hb1
      have bB := HBB.out.keep hb1
      have hb2 := below_trans HB0.out hb1
      have x0 : w1.cell? ⟨w.heap.size, 0, none⟩ = some (.slice A1 n1 c1) := bG.cell 0
      have x1 : w1.cell? ⟨w.heap.size, 1, none⟩ = some (.slice A2 n2 c2) := bG.cell 1
      have y0 : w1.cell? ⟨w.heap.size + 1, 0, none⟩ = some (.int .i64 a.start) := bA.cell 0
      have y1 : w1.cell? ⟨w.heap.size + 1, 1, none⟩ = some (.slice A3 n3 c3) := bA.cell 1
      have y2 : w1.cell? ⟨w.heap.size + 1, 2, none⟩ = some (.slice A4 n4 c4) := bA.cell 2
      have q0 : w1.cell? ⟨w.heap.size + 1 + 1, 0, none⟩ = some (.int .i64 BI) := bB.cell 0
      have l0 := bG.lt
      have l1 := bA.lt
      have l2 := bB.lt
      have HFP := Lib.hid (found_TrailAnswers g (srchC g a BI false) w.heap.size (w.heap.size + 1) (w.heap.size + 1 + 1) _ w1 (HGV.out.keep hb2) hn5 (fun x y W hW => cl_TrailAnswers g a (x : Int) (y : Int) BI w.heap.size (w.heap.size + 1) (w.heap.size + 1 + 1) A1 A2 A3 A4 n1 c1 n2 c2 n3 c3 n4 c4 W (kcell hW x0) (kcell hW x1) (kcell hW y0) (kcell hW y1) (kcell hW y2) (kcell hW q0) (Nat.lt_of_lt_of_le l0 hW.size) (Nat.lt_of_lt_of_le l1 hW.size) (Nat.lt_of_lt_of_le l2 hW.size) (HGV.out.keep (below_trans hb2 hW)) (HAV.out.keep (below_trans hb2 hW))))
      rw [← HF.out] at HFP
      have HB2 := Lib.hid hb2
      clear bG bA bB hb1 hb2
      go_wp2_with fail
      refine (HW.out _).mono ?_
      rintro e w9 ⟨rfl, hw9⟩
      rw [hw9]
      clear hw9
      go_wp2_with fail
      refine HFP.out.mono ?_
      rintro e w5 ⟨v5, rfl, ho5, hb5⟩
      have hsz5 := HB2.out.size
      have HO := Lib.hid (ho5.mono hsz5 (Nat.le_refl _))
      have HB := Lib.hid (below_trans HB2.out hb5)
      clear ho5 hb5
      go_wp2_with fail
      go_ret2
      exact ⟨_, rfl, HO.out, HB.out⟩
set_option maxHeartbeats 4000000 in
set_option maxRecDepth 100000 in
theorem l20All_false (vg va : Value) (g : Gr) (a : Au) (BI : Int) (w : World) (hgv : GrV 0 w.heap.size w vg g) (hav : AuV 0 w.heap.size w va a) :
    Calls Tryz.prog 66 #[vg, va, .int .i64 BI, .bool false] w fun e w' => ∃ v', e = .returned (.tuple #[v', .bool (srchA g a BI false).isSome]) ∧ Own w.heap.size w'.heap.size w' 63 cPr 2 v' ((srchA g a BI false).getD []) ∧ Below w.heap.size w w' := by
  have hgv0 := hgv
  have hav0 := hav
  obtain ⟨A1, c1, A2, c2, rfl, hl1, hm1, hl2, hm2, -, -⟩ := hgv.form
  obtain ⟨A3, n3, c3, A4, n4, c4, rfl⟩ := hav.shape
  obtain ⟨R, hR⟩ : ∃ R, R = srchA g a BI false := ⟨_, rfl⟩
  rw [← hR]
  obtain ⟨N, hN⟩ : ∃ N, N = g.vals.length := ⟨_, rfl⟩
  have hgd : goodB g a 0 0 = (grOk g && auOk a) := by
    rw [goodB0]
    cases hg : grOk g with
    | false => simp
    | true =>
      have := (grOk_iff.1 hg).n1
      rw [wi_iff.2 ⟨by omega, by omega⟩, Bool.and_true]
  obtain ⟨gO, hgO⟩ : ∃ gO, gO = w.heap.size + 1 + 1 := ⟨_, rfl⟩
  obtain ⟨W0, hW0⟩ : ∃ W0, W0 = ((w.alloc (.cells #[.slice A1 g.vals.length c1, .slice A2 g.edges.length c2] 36)).alloc (.cells #[.int .i64 a.start, .slice A3 n3 c3, .slice A4 n4 c4] 38)).alloc (.cells #[] 63) := ⟨_, rfl⟩
  have hb0 : Below w.heap.size w W0 := by rw [hW0]; exact (((Below.refl _ _).alloc (Nat.le_refl _) _).alloc (by simp) _).alloc (by simp; omega) _
  have bG : Blk W0 w.heap.size 36 #[.slice A1 g.vals.length c1, .slice A2 g.edges.length c2] := by rw [hW0]; exact ((Blk.new w _ _ w.heap.size rfl).alloc _).alloc _
  have bA : Blk W0 (w.heap.size + 1) 38 #[.int .i64 a.start, .slice A3 n3 c3, .slice A4 n4 c4] := by rw [hW0]; exact (Blk.new (w.alloc _) _ _ (w.heap.size + 1) (by simp)).alloc _
  have hrow0 : W0.ownsRow gO 63 2 (.slice (some ⟨gO, 0, none⟩) 0 0) ([] : List Pr).length (([] : List Pr).flatMap cPr) := by
    rw [hW0, hgO]
    have h := World.ownsRow_lit (base := w.heap.size + 1 + 1) (e := 63) (size := 2) ((w.alloc (.cells #[.slice A1 g.vals.length c1, .slice A2 g.edges.length c2] 36)).alloc (.cells #[.int .i64 a.start, .slice A3 n3 c3, .slice A4 n4 c4] 38)) #[] 0 (by simp) (by decide) rfl
    simpa using h
  have HGX := Lib.hid (l14Good_any _ _ g a 0 0 W0 (hgv0.keep hb0) (hav0.keep hb0))
  rw [hgd] at HGX
  have HROW0 := Lib.hid hrow0
  have HB0 := Lib.hid hb0
  have HGV := Lib.hid hgv0
  have HAV := Lib.hid hav0
  have HHW := Lib.hid (And.intro hW0 hgO)
  have hsW : gO < W0.heap.size := by rw [hW0, hgO]; simp
  have hwg : w.heap.size + 1 < gO := by omega
  have hwg0 : w.heap.size < gO := by omega
  clear hgv hav hgv0 hav0 hb0 hrow0 hW0 hgO hgd
  go_enter Tryz.func66, Tryz.ntmps66
  go_wp2_with fail
  rw [← HHW.out.1, ← HHW.out.2]
  clear HHW
  cases hgo : (grOk g && auOk a) with
  | false =>
    rw [hgo] at HGX
    have HF := Lib.hid (hR.trans (show srchA g a BI false = none by rw [srchA, if_neg]; rw [srchAk, hgo]; simp))
    refine HGX.out.mono ?_
    rintro e w1 ⟨rfl, hb1⟩
    have bG := bG.keep hb1
    have x0 : w1.cell? ⟨w.heap.size, 0, none⟩ = some (.slice A1 g.vals.length c1) := bG.cell 0
    have x1 : w1.cell? ⟨w.heap.size, 1, none⟩ = some (.slice A2 g.edges.length c2) := bG.cell 1
    have l0 := bG.lt
    have HOF := Lib.hid ((Own.of_row (xs := ([] : List Pr)) (ownsRow_below HROW0.out hb1 (Nat.le_refl _)) rfl rfl).mono (show w.heap.size ≤ gO by omega) (Nat.le_refl _))
    have HBF := Lib.hid (below_trans HB0.out hb1)
    clear bG hb1
    go_wp2_with fail
    go_loopw [10, 12] (fun oo ii wr => oo = .slice (some ⟨gO, 0, none⟩) 0 0 ∧ ii = .int .i64 0 ∧ wr = w1) (fun _ _ _ => 0)
    case atStart => exact ⟨rfl, rfl, rfl⟩
    case round =>
      obtain ⟨rfl, rfl, hw⟩ := hrel
      rw [hw]
      clear hw
      go_wp2_with fail
      all_goals go_ret2
      all_goals rw [HF.out]
      all_goals exact ⟨_, rfl, HOF.out, HBF.out⟩
  | true =>
    rw [hgo] at HGX
    refine HGX.out.mono ?_
    rintro e w1 ⟨rfl, hb1⟩
    have HW := Lib.hid (fun W => l1In_any BI 1 20000 W)
    go_wp2_with fail
    cases hwB : wi BI 1 20000 with
    | false =>
      rw [hwB] at HW
      have HF := Lib.hid (hR.trans (show srchA g a BI false = none by rw [srchA, if_neg]; rw [srchAk, hwB]; simp))
      refine (HW.out _).mono ?_
      rintro e w9 ⟨rfl, hw9⟩
      rw [hw9]
      clear hw9
      have bG := bG.keep hb1
      have x0 : w1.cell? ⟨w.heap.size, 0, none⟩ = some (.slice A1 g.vals.length c1) := bG.cell 0
      have x1 : w1.cell? ⟨w.heap.size, 1, none⟩ = some (.slice A2 g.edges.length c2) := bG.cell 1
      have l0 := bG.lt
      have HOF := Lib.hid ((Own.of_row (xs := ([] : List Pr)) (ownsRow_below HROW0.out hb1 (Nat.le_refl _)) rfl rfl).mono (show w.heap.size ≤ gO by omega) (Nat.le_refl _))
      have HBF := Lib.hid (below_trans HB0.out hb1)
      clear bG hb1
      go_wp2_with fail
      go_loopw [10, 12] (fun oo ii wr => oo = .slice (some ⟨gO, 0, none⟩) 0 0 ∧ ii = .int .i64 0 ∧ wr = w1) (fun _ _ _ => 0)
      case atStart => exact ⟨rfl, rfl, rfl⟩
      case round =>
        obtain ⟨rfl, rfl, hw⟩ := hrel
        rw [hw]
        clear hw
        go_wp2_with fail
        all_goals go_ret2
        all_goals rw [HF.out]
        all_goals exact ⟨_, rfl, HOF.out, HBF.out⟩
    | true =>
      rw [hwB] at HW
      refine (HW.out _).mono ?_
      rintro e w9 ⟨rfl, hw9⟩
      rw [hw9]
      clear hw9 HW HGX
      have HR := Lib.hid (hR.trans (show srchA g a BI false = srAllF (srchC g a BI false) N N by rw [srchA, if_pos, hN]; rw [srchAk, hgo, hwB]; rfl))
      simp only [Bool.and_eq_true] at hgo
      have hn5 := (grOk_iff.1 hgo.1).n5
      rw [← hN] at hn5 hl1
      have bG := bG.keep hb1
      have bA := bA.keep hb1
      have x0 : w1.cell? ⟨w.heap.size, 0, none⟩ = some (.slice A1 N c1) := by rw [hN]; exact bG.cell 0
      have x1 : w1.cell? ⟨w.heap.size, 1, none⟩ = some (.slice A2 g.edges.length c2) := bG.cell 1
      have y0 : w1.cell? ⟨w.heap.size + 1, 0, none⟩ = some (.int .i64 a.start) := bA.cell 0
      have y1 : w1.cell? ⟨w.heap.size + 1, 1, none⟩ = some (.slice A3 n3 c3) := bA.cell 1
      have y2 : w1.cell? ⟨w.heap.size + 1, 2, none⟩ = some (.slice A4 n4 c4) := bA.cell 2
      have l0 := bG.lt
      have l1 := bA.lt
      have HB1 := Lib.hid (below_trans HB0.out hb1)
      have HROW1 := Lib.hid (ownsRow_below HROW0.out hb1 (Nat.le_refl _))
      have hs1 := hb1.size
      rw [← hN] at HGV
      obtain ⟨f, hf⟩ : ∃ f, f = srchC g a BI false := ⟨_, rfl⟩
      have HFD := Lib.hid (fun (x y : Nat) (W : World) (hW : Below w.heap.size w W) => by
        have h := l20Find_false _ _ g a (x : Int) (y : Int) BI W (HGV.out.keep hW) (HAV.out.keep hW)
        rw [show (srchL g a (x : Int) (y : Int) BI false).2 = f x y by rw [hf]; rfl] at h
        exact h)
      rw [← hf] at HR
      clear hN hgo hwB bG bA hb1 HROW0 HB0 hR hf HGV HAV
      go_wp2_with fail
      go_loopw [10, 12] (fun oo ii wr => ∃ (i : Nat) (L : List Pr), i ≤ N ∧ ii = .int .i64 (i : Int) ∧ srAllF f N i = some L ∧ wr.ownsRow gO 63 2 oo L.length (L.flatMap cPr) ∧ Below gO w1 wr) (fun _ ii _ => N - (intOf ii).toNat)
      case atStart => exact ⟨0, [], Nat.zero_le _, rfl, rfl, HROW1.out, Below.refl _ _⟩
      case round =>
        clear HROW1
        obtain ⟨i, L, hi, rfl, hL, hrow, hbel⟩ := hrel
        have HL := Lib.hid hL
        have HROW := Lib.hid hrow
        have HBEL := Lib.hid hbel
        have hsz := hbel.size
        have X0 := Lib.hid x0
        have X1 := Lib.hid x1
        have Y0 := Lib.hid y0
        have Y1 := Lib.hid y1
        have Y2 := Lib.hid y2
        have x0 := (HBEL.out.cell (p := ⟨w.heap.size, 0, none⟩) (by simp only; omega)).trans x0
        have x1 := (HBEL.out.cell (p := ⟨w.heap.size, 1, none⟩) (by simp only; omega)).trans x1
        have l0 : w.heap.size < wr.heap.size := by omega
        clear hL hrow hbel
        by_cases hlt : i < N
        · have hii : (i : Int) < (N : Int) := by omega
          obtain ⟨wo, rfl⟩ : ∃ wo : World, wo = wr := ⟨_, rfl⟩
          go_wp2_with fail
          go_loopw [10, 13] (fun oo jj wr => ∃ (j : Nat) (M : List Pr), j ≤ N ∧ jj = .int .i64 (j : Int) ∧ srRowF f i (srAllF f N i) j = some M ∧ wr.ownsRow gO 63 2 oo M.length (M.flatMap cPr) ∧ Below gO w1 wr) (fun _ jj _ => N - (intOf jj).toNat)
          case atStart => exact ⟨0, L, Nat.zero_le _, rfl, HL.out, HROW.out, HBEL.out⟩
          case round =>
            clear HROW HBEL hsz l0 x0 x1
            obtain ⟨j, M, hj, rfl, hM, hrow2, hbel2⟩ := hrel
            have HM := Lib.hid hM
            have HROW2 := Lib.hid hrow2
            have HBEL2 := Lib.hid hbel2
            have hsz2 := hbel2.size
            have HBW2 := Lib.hid (HB1.out.trans (hbel2.mono (show w.heap.size ≤ gO by omega)))
            have hml := srRowF_len (f := f) (x := i) (st := srAllF f N i) (n := 25) (fun L2 h2 => by have h3 := srAllF_len i L2 h2; have h4 : i * N ≤ 5 * 5 := Nat.mul_le_mul (by omega) hn5; omega) j M hM
            have x0 := (hbel2.cell (p := ⟨w.heap.size, 0, none⟩) (by simp only; omega)).trans X0.out
            have x1 := (hbel2.cell (p := ⟨w.heap.size, 1, none⟩) (by simp only; omega)).trans X1.out
            have y0 := (hbel2.cell (p := ⟨w.heap.size + 1, 0, none⟩) (by simp only; omega)).trans Y0.out
            have y1 := (hbel2.cell (p := ⟨w.heap.size + 1, 1, none⟩) (by simp only; omega)).trans Y1.out
            have y2 := (hbel2.cell (p := ⟨w.heap.size + 1, 2, none⟩) (by simp only; omega)).trans Y2.out
            have l0 : w.heap.size < wr.heap.size := by omega
            have l1 : w.heap.size + 1 < wr.heap.size := by omega
            clear hM hrow2 hbel2
            by_cases hlj : j < N
            · have hjj : (j : Int) < (N : Int) := by omega
              have HC1 := Lib.hid (fun h => srRowF_one (f := f) (x := i) HM.out h)
              have HC0 := Lib.hid (fun h h2 => srRowF_on (f := f) (x := i) HM.out h h2)
              have HC3 := Lib.hid (fun h => srAllF_out (f := f) hlt hlj HM.out h)
              have HCX := Lib.hid (HFD.out i j wr HBW2.out)
              generalize f i j = c at *
              go_wp2_with fail
              refine HCX.out.mono ?_
              rintro e w4 ⟨v4, rfl, ⟨ss, rfl, hown⟩, hb4⟩
              obtain ⟨A9, n9, c9, rfl⟩ := hown.shape
              obtain ⟨V1, hV1⟩ : ∃ V1, V1 = (srchL g a (i : Int) (j : Int) BI false).1.1 := ⟨_, rfl⟩
              rw [← hV1]
              clear hV1 hown
              obtain ⟨w5, hw5⟩ : ∃ w5, w5 = w4.alloc (.cells #[.int .i64 V1, .slice A9 n9 c9] 59) := ⟨_, rfl⟩
              have hb5 : Below wr.heap.size wr w5 := by rw [hw5]; exact hb4.alloc hb4.size _
              have hb6 := HBEL2.out.trans (hb5.mono (show gO ≤ wr.heap.size by omega))
              have HR5 := Lib.hid (ownsRow_below HROW2.out hb5 (Nat.le_refl _))
              have HB6 := Lib.hid hb6
              have hs6 := hb6.size
              have HW5 := Lib.hid hw5
              clear hb5 hb6 hb4 hw5
              go_upto_region 10 with fail
              rw [← HW5.out]
              clear HW5
              by_cases h3 : c = 3
              · have k3 : (c == 3) = true := by simp [h3]
                have k4 : decide (c = 3) = true := by simp [h3]
                have HN3 := Lib.hid (HR.out.trans (HC3.out h3))
                clear HC1 HC0 HC3
                subst h3
                have HBF := Lib.hid (HB1.out.trans (HB6.out.mono (show w.heap.size ≤ gO by omega)))
                have hswf := HBF.out.size
                go_wp2_with fail
                go_ret2
                rw [HN3.out]
                exact ⟨_, rfl, lit_nilA hswf, HBF.out.alloc hswf _⟩
              · have k3 : (c == 3) = false := by simp [h3]
                have k4 : decide (c = 3) = false := by simp [h3]
                by_cases h1 : c = 1
                · have k1 : (c == 1) = true := by simp [h1]
                  have k2 : decide (c = 1) = true := by simp [h1]
                  have HN1 := Lib.hid (HC1.out h1)
                  clear HC1 HC0 HC3 h3
                  subst h1
                  go_wp2_with (at_builtin; (refine wpList_append1 cPr elPair rfl _ _ rfl gO _ M ((i : Int), (j : Int)) _ 1 w5.heap.size (by rfl) HR5.out (by rfl) rfl rfl rfl (cPr_one _) (by omega) (by omega) (by omega) ?_); intro v' w7 hrow7 hb7 _ _)
                  go_roundw
                  case rel => exact ⟨j + 1, _, by omega, by go_num, HN1.out, hrow7, HB6.out.trans hb7⟩
                  case measure => simp [intOf]; omega
                · have k1 : (c == 1) = false := by simp [h1]
                  have k2 : decide (c = 1) = false := by simp [h1]
                  have HN0 := Lib.hid (HC0.out h1 h3)
                  clear HC1 HC0 HC3 h1 h3
                  go_wp2_with fail
                  go_roundw
                  case rel => exact ⟨j + 1, _, by omega, by go_num, HN0.out, HR5.out, HB6.out⟩
                  case measure => simp [intOf]; omega
            · obtain rfl : j = N := by omega
              rw [← srAllF_succ] at HM
              go_wp2_with fail
              go_roundw
              case rel => exact ⟨i + 1, _, by omega, by go_num, HM.out, HROW2.out, HBEL2.out⟩
              case measure => simp [intOf]; omega
        · obtain rfl : i = N := by omega
          have hRe := HR.out.trans HL.out
          have HRE := Lib.hid hRe
          have HBF := Lib.hid (HB1.out.trans (HBEL.out.mono (show w.heap.size ≤ gO by omega)))
          have HOF := Lib.hid ((Own.of_row (xs := L) HROW.out rfl rfl).mono (show w.heap.size ≤ gO by omega) (Nat.le_refl _))
          clear hRe
          go_wp2_with fail
          go_ret2
          rw [HRE.out]
          exact ⟨_, rfl, HOF.out, HBF.out⟩
set_option maxHeartbeats 4000000 in
theorem specTrailAnswers (vg va : Value) (g : Gr) (a : Au) (BI : Int) (w : World) (hgv : GrV 0 w.heap.size w vg g) (hav : AuV 0 w.heap.size w va a) :
    Calls Tryz.prog 46 #[vg, va, .int .i64 BI] w fun e w' => ∃ v', e = .returned (.tuple #[v', .bool (srchA g a BI false).isSome]) ∧ Own w.heap.size w'.heap.size w' 63 cPr 2 v' ((srchA g a BI false).getD []) ∧ Below w.heap.size w w' := by
  have hgv0 := hgv
  have hav0 := hav
  obtain ⟨A1, n1, c1, A2, n2, c2, rfl⟩ := hgv.shape
  obtain ⟨A3, n3, c3, A4, n4, c4, rfl⟩ := hav.shape
  have hb0 : Below w.heap.size w ((w.alloc (.cells #[.slice A1 n1 c1, .slice A2 n2 c2] 36)).alloc (.cells #[.int .i64 a.start, .slice A3 n3 c3, .slice A4 n4 c4] 38)) := ((Below.refl _ _).alloc (Nat.le_refl _) _).alloc (by simp) _
  have HC := Lib.hid (l20All_false _ _ g a BI _ (hgv0.keep hb0) (hav0.keep hb0))
  generalize srchA g a BI false = R at *
  have HB0 := Lib.hid hb0
  have hsz0 := hb0.size
  clear hgv hav hgv0 hav0 hb0
  go_enter Tryz.func46, Tryz.ntmps46
  go_wp2_with fail
  refine HC.out.mono ?_
  rintro e w1 ⟨v1, rfl, hown, hb1⟩
  have HO := Lib.hid (hown.mono hsz0 (Nat.le_refl _))
  have HB := Lib.hid (below_trans HB0.out hb1)
  clear hown hb1 HC
  go_wp2_with fail
  go_ret2
  exact ⟨_, rfl, HO.out, HB.out⟩
set_option maxHeartbeats 4000000 in
set_option maxRecDepth 100000 in
theorem cl_SimplePathAnswers (g : Gr) (a : Au) (x y BI : Int) (b0 b1 b2 : Nat) (A1 A2 A3 A4 : Option Addr) (n1 c1 n2 c2 n3 c3 n4 c4 : Nat) (W : World) (x0 : W.cell? ⟨b0, 0, none⟩ = some (.slice A1 n1 c1)) (x1 : W.cell? ⟨b0, 1, none⟩ = some (.slice A2 n2 c2)) (y0 : W.cell? ⟨b1, 0, none⟩ = some (.int .i64 a.start)) (y1 : W.cell? ⟨b1, 1, none⟩ = some (.slice A3 n3 c3)) (y2 : W.cell? ⟨b1, 2, none⟩ = some (.slice A4 n4 c4)) (q0 : W.cell? ⟨b2, 0, none⟩ = some (.int .i64 BI))
    (l0 : b0 < W.heap.size) (l1 : b1 < W.heap.size) (l2 : b2 < W.heap.size) (hgv : GrV 0 W.heap.size W (.agg #[.slice A1 n1 c1, .slice A2 n2 c2]) g) (hav : AuV 0 W.heap.size W (.agg #[.int .i64 a.start, .slice A3 n3 c3, .slice A4 n4 c4]) a) :
    Calls Tryz.prog 73 #[.int .i64 x, .int .i64 y, .pointer (some ⟨b0, 0, none⟩), .pointer (some ⟨b1, 0, none⟩), .pointer (some ⟨b2, 0, none⟩)] W fun e W' => e = .returned (.int .i64 (srchL g a x y BI true).2) ∧ Below W.heap.size W W' := by
  have HC := Lib.hid (implSearchSimplePath _ _ g a x y BI W hgv hav)
  generalize srchL g a x y BI true = R at *
  clear hgv hav
  go_enter Tryz.func73, Tryz.ntmps73
  go_wp2_with fail
  refine HC.out.mono ?_
  rintro e w1 ⟨v1, rfl, ⟨ss, rfl, hown⟩, hb1⟩
  obtain ⟨A9, n9, c9, rfl⟩ := hown.shape
  clear hown HC
  go_wp2_with fail
  go_ret
  exact ⟨rfl, hb1.alloc hb1.size _⟩
set_option maxHeartbeats 4000000 in
set_option maxRecDepth 100000 in
theorem found_SimplePathAnswers (g : Gr) (f : Nat → Nat → Int) (b0 b1 b2 : Nat) (vg : Value) (w : World) (hgv : GrV 0 w.heap.size w vg g) (hn5 : g.vals.length ≤ 5)
    (hcl : ∀ (x y : Nat) (W : World), Below w.heap.size w W → Calls Tryz.prog 73 #[.int .i64 (x : Int), .int .i64 (y : Int), .pointer (some ⟨b0, 0, none⟩), .pointer (some ⟨b1, 0, none⟩), .pointer (some ⟨b2, 0, none⟩)] W fun e W' => e = .returned (.int .i64 (f x y)) ∧ Below W.heap.size W W') :
    Calls Tryz.prog 70 #[vg, .func (Fn.func 73) #[] #[.pointer (some ⟨b0, 0, none⟩), .pointer (some ⟨b1, 0, none⟩), .pointer (some ⟨b2, 0, none⟩)]] w fun e w' => ∃ v', e = .returned (.tuple #[v', .bool (srAllF f g.vals.length g.vals.length).isSome]) ∧
      Own w.heap.size w'.heap.size w' 63 cPr 2 v' ((srAllF f g.vals.length g.vals.length).getD []) ∧ Below w.heap.size w w' := by
  obtain ⟨A1, c1, A2, c2, rfl, hl1, hm1, hl2, hm2, -, -⟩ := hgv.form
  clear hgv
  generalize g.vals.length = N at *
  obtain ⟨R, hR⟩ : ∃ R, R = srAllF f N N := ⟨_, rfl⟩
  rw [← hR]
  have HR := Lib.hid hR
  have HCL := Lib.hid hcl
  clear hR hcl
  go_enter Tryz.func70, Tryz.ntmps70
  go_wp2_with fail
  obtain ⟨gO, hgO⟩ : ∃ gO, gO = w.heap.size + 1 := ⟨_, rfl⟩
  obtain ⟨W0, hW0⟩ : ∃ W0, W0 = (w.alloc (.cells #[.slice A1 N c1, .slice A2 g.edges.length c2] 36)).alloc (.cells #[] 63) := ⟨_, rfl⟩
  have hb0 : Below w.heap.size w W0 := by rw [hW0]; exact ((Below.refl _ _).alloc (Nat.le_refl _) _).alloc (by simp) _
  have bx : Blk W0 w.heap.size 36 #[.slice A1 N c1, .slice A2 g.edges.length c2] := by rw [hW0]; exact (Blk.new w _ _ w.heap.size rfl).alloc _
  have hrow0 : W0.ownsRow gO 63 2 (.slice (some ⟨gO, 0, none⟩) 0 0) ([] : List Pr).length (([] : List Pr).flatMap cPr) := by
    rw [hW0, hgO]
    have h := World.ownsRow_lit (base := w.heap.size + 1) (e := 63) (size := 2) (w.alloc (.cells #[.slice A1 N c1, .slice A2 g.edges.length c2] 36)) #[] 0 (by simp) (by decide) rfl
    simpa using h
  have hsW : gO < W0.heap.size := by rw [hW0, hgO]; simp
  have x0 : W0.cell? ⟨w.heap.size, 0, none⟩ = some (.slice A1 N c1) := bx.cell 0
  have x1 : W0.cell? ⟨w.heap.size, 1, none⟩ = some (.slice A2 g.edges.length c2) := bx.cell 1
  have hg1 : w.heap.size + 1 ≤ gO := by omega
  have hwg : w.heap.size < gO := by omega
  rw [← hW0, ← hgO]
  have l0 : w.heap.size < W0.heap.size := by omega
  have HROW0 := Lib.hid hrow0
  have HB0 := Lib.hid hb0
  clear hW0 hgO bx hrow0 hb0
  try go_wp2_with fail
  go_loopw [6, 13] (fun oo ii wr => ∃ (i : Nat) (L : List Pr), i ≤ N ∧ ii = .int .i64 (i : Int) ∧ srAllF f N i = some L ∧ wr.ownsRow gO 63 2 oo L.length (L.flatMap cPr) ∧ Below gO W0 wr) (fun _ ii _ => N - (intOf ii).toNat)
  case atStart => exact ⟨0, [], Nat.zero_le _, rfl, rfl, HROW0.out, Below.refl _ _⟩
  case round =>
    clear HROW0
    obtain ⟨i, L, hi, rfl, hL, hrow, hbel⟩ := hrel
    have HL := Lib.hid hL
    have HROW := Lib.hid hrow
    have HBEL := Lib.hid hbel
    have hsz := hbel.size
    clear hL hrow hbel
    by_cases hlt : i < N
    · have hii : (i : Int) < (N : Int) := by omega
      have x0 := (HBEL.out.cell (p := ⟨w.heap.size, 0, none⟩) (by simp only; omega)).trans x0
      have x1 := (HBEL.out.cell (p := ⟨w.heap.size, 1, none⟩) (by simp only; omega)).trans x1
      have l0 : w.heap.size < wr.heap.size := by omega
      obtain ⟨wo, rfl⟩ : ∃ wo : World, wo = wr := ⟨_, rfl⟩
      go_wp2_with fail
      go_loopw [6, 19] (fun oo jj wr => ∃ (j : Nat) (M : List Pr), j ≤ N ∧ jj = .int .i64 (j : Int) ∧ srRowF f i (srAllF f N i) j = some M ∧ wr.ownsRow gO 63 2 oo M.length (M.flatMap cPr) ∧ Below gO W0 wr) (fun _ jj _ => N - (intOf jj).toNat)
      case atStart => exact ⟨0, L, Nat.zero_le _, rfl, HL.out, HROW.out, HBEL.out⟩
      case round =>
        clear HROW HBEL hsz l0 x0 x1
        obtain ⟨j, M, hj, rfl, hM, hrow2, hbel2⟩ := hrel
        have HM := Lib.hid hM
        have HROW2 := Lib.hid hrow2
        have HBEL2 := Lib.hid hbel2
        have hsz2 := hbel2.size
        have HBW2 := Lib.hid (HB0.out.trans (hbel2.mono (show w.heap.size ≤ gO by omega)))
        have hml := srRowF_len (f := f) (x := i) (st := srAllF f N i) (n := 25) (fun L2 h2 => by have h3 := srAllF_len i L2 h2; have h4 : i * N ≤ 5 * 5 := Nat.mul_le_mul (by omega) hn5; omega) j M hM
        clear hM hrow2 hbel2
        by_cases hlj : j < N
        · have hjj : (j : Int) < (N : Int) := by omega
          have HC1 := Lib.hid (fun h => srRowF_one (f := f) (x := i) HM.out h)
          have HC0 := Lib.hid (fun h h2 => srRowF_on (f := f) (x := i) HM.out h h2)
          have HC3 := Lib.hid (fun h => srAllF_out (f := f) hlt hlj HM.out h)
          have HCX := Lib.hid (HCL.out i j wr HBW2.out)
          generalize f i j = c at *
          go_wp2_with fail
          refine HCX.out.mono ?_
          rintro e w5 ⟨rfl, hb5⟩
          have hb6 := HBEL2.out.trans (hb5.mono (show gO ≤ wr.heap.size by omega))
          have HR5 := Lib.hid (ownsRow_below HROW2.out hb5 (Nat.le_refl _))
          have HB6 := Lib.hid hb6
          have hs6 := hb6.size
          clear hb5 hb6
          by_cases h1 : c = 1
          · have k1 : (c == 1) = true := by simp [h1]
            have k2 : decide (c = 1) = true := by simp [h1]
            have HN1 := Lib.hid (HC1.out h1)
            subst h1
            clear HC1 HC0 HC3
            go_wp2_with (at_builtin; (refine wpList_append1 cPr elPair rfl _ _ rfl gO _ M ((i : Int), (j : Int)) _ 1 w5.heap.size (by rfl) HR5.out (by rfl) rfl rfl rfl (cPr_one _) (by omega) (by omega) (by omega) ?_); intro v' w7 hrow7 hb7 _ _)
            go_roundw
            case rel => exact ⟨j + 1, _, by omega, by go_num, HN1.out, hrow7, HB6.out.trans hb7⟩
            case measure => simp [intOf]; omega
          · have k1 : (c == 1) = false := by simp [h1]
            have k2 : decide (c = 1) = false := by simp [h1]
            by_cases h3 : c = 3
            · have k3 : (c == 3) = true := by simp [h3]
              have k4 : decide (c = 3) = true := by simp [h3]
              have HN3 := Lib.hid (HR.out.trans (HC3.out h3))
              clear HC1 HC0 HC3 h1
              subst h3
              have HBF := Lib.hid (HB0.out.trans (HB6.out.mono (show w.heap.size ≤ gO by omega)))
              go_wp2_with fail
              go_ret2
              rw [HN3.out]
              exact ⟨_, rfl, Own.nil _ _ _ _ _ _, HBF.out⟩
            · have k3 : (c == 3) = false := by simp [h3]
              have k4 : decide (c = 3) = false := by simp [h3]
              have HN0 := Lib.hid (HC0.out h1 h3)
              clear HC1 HC0 HC3 h1 h3
              go_wp2_with fail
              go_roundw
              case rel => exact ⟨j + 1, _, by omega, by go_num, HN0.out, HR5.out, HB6.out⟩
              case measure => simp [intOf]; omega
        · obtain rfl : j = N := by omega
          rw [← srAllF_succ] at HM
          go_wp2_with fail
          go_roundw
          case rel => exact ⟨i + 1, _, by omega, by go_num, HM.out, HROW2.out, HBEL2.out⟩
          case measure => simp [intOf]; omega
    · obtain rfl : i = N := by omega
      have hRe := HR.out.trans HL.out
      have HRE := Lib.hid hRe
      have HBF := Lib.hid (HB0.out.trans (HBEL.out.mono (show w.heap.size ≤ gO by omega)))
      have HOF := Lib.hid ((Own.of_row (xs := L) HROW.out rfl rfl).mono (show w.heap.size ≤ gO by omega) (Nat.le_refl _))
      clear hRe
      go_wp2_with fail
      go_ret2
      rw [HRE.out]
      exact ⟨_, rfl, HOF.out, HBF.out⟩
set_option maxHeartbeats 4000000 in
set_option maxRecDepth 100000 in
theorem implSimplePathAnswers (vg va : Value) (g : Gr) (a : Au) (BI : Int) (w : World) (hgv : GrV 0 w.heap.size w vg g) (hav : AuV 0 w.heap.size w va a) :
    Calls Tryz.prog 50 #[vg, va, .int .i64 BI] w fun e w' => ∃ v', e = .returned (.tuple #[v', .bool (srchA g a BI true).isSome]) ∧ Own w.heap.size w'.heap.size w' 63 cPr 2 v' ((srchA g a BI true).getD []) ∧ Below w.heap.size w w' := by
  have hgv0 := hgv
  have hav0 := hav
  obtain ⟨A1, n1, c1, A2, n2, c2, rfl⟩ := hgv.shape
  obtain ⟨A3, n3, c3, A4, n4, c4, rfl⟩ := hav.shape
  have hb0 : Below w.heap.size w (((w.alloc (.cells #[.slice A1 n1 c1, .slice A2 n2 c2] 36)).alloc (.cells #[.int .i64 a.start, .slice A3 n3 c3, .slice A4 n4 c4] 38)).alloc (.cells #[.int .i64 BI] 3)) := (((Below.refl _ _).alloc (Nat.le_refl _) _).alloc (by simp) _).alloc (by simp; omega) _
  have bG := ((Blk.new w 36 #[.slice A1 n1 c1, .slice A2 n2 c2] w.heap.size rfl).alloc (.cells #[.int .i64 a.start, .slice A3 n3 c3, .slice A4 n4 c4] 38)).alloc (.cells #[.int .i64 BI] 3)
  have bA := (Blk.new (w.alloc (.cells #[.slice A1 n1 c1, .slice A2 n2 c2] 36)) 38 #[.int .i64 a.start, .slice A3 n3 c3, .slice A4 n4 c4] (w.heap.size + 1) (by simp)).alloc (.cells #[.int .i64 BI] 3)
  have bB := Blk.new ((w.alloc (.cells #[.slice A1 n1 c1, .slice A2 n2 c2] 36)).alloc (.cells #[.int .i64 a.start, .slice A3 n3 c3, .slice A4 n4 c4] 38)) 3 #[.int .i64 BI] (w.heap.size + 1 + 1) (by simp)
  have HBO := Lib.hid (bothOk_any _ _ (.slice none 0 0) g a [] _ (hgv0.keep hb0) (hav0.keep hb0) (SlI.nil _ _ _ _ _))
  have HGV := Lib.hid hgv0
  have HAV := Lib.hid hav0
  have HB0 := Lib.hid hb0
  have HBG := Lib.hid bG
  have HBA := Lib.hid bA
  have HBB := Lib.hid bB
  obtain ⟨R, hR⟩ : ∃ R, R = srchA g a BI true := ⟨_, rfl⟩
  rw [← hR]
  have HR := Lib.hid hR
  simp only [List.all_nil, Bool.true_and] at HBO
  clear hgv hav hgv0 hav0 hb0 bG bA bB hR
  cases hgo : (grOk g && auOk a) with
  | false =>
    rw [hgo] at HBO
    have HF := Lib.hid (HR.out.trans (show srchA g a BI true = none by rw [srchA, if_neg]; rw [srchAk, hgo]; simp))
    clear hgo HR
    go_enter Tryz.func50, Tryz.ntmps50
    go_wp2_with fail
    refine HBO.out.mono ?_
    rintro e w1 ⟨rfl, hb1⟩
    go_wp2_with fail
    go_ret2
    rw [HF.out]
    exact ⟨_, rfl, Own.nil _ _ _ _ _ _, below_trans HB0.out hb1⟩
  | true =>
    rw [hgo] at HBO
    cases hwB : wi BI 1 20000 with
    | false =>
      have HF := Lib.hid (HR.out.trans (show srchA g a BI true = none by rw [srchA, if_neg]; rw [srchAk, hwB]; simp))
      have HW := Lib.hid (fun W => within_any BI 1 20000 W)
      rw [hwB] at HW
      clear hgo HR hwB
      go_enter Tryz.func50, Tryz.ntmps50
      go_wp2_with fail
      refine HBO.out.mono ?_
      rintro e w1 ⟨rfl, hb1⟩
      have q0 : w1.cell? ⟨w.heap.size + 1 + 1, 0, none⟩ = some (.int .i64 BI) := (HBB.out.keep hb1).cell 0
      have l2 := (HBB.out.keep hb1).lt
      go_wp2_with fail
      refine (HW.out _).mono ?_
      rintro e w9 ⟨rfl, hw9⟩
      rw [hw9]
      clear hw9
      go_wp2_with fail
      go_ret2
      rw [HF.out]
      exact ⟨_, rfl, Own.nil _ _ _ _ _ _, below_trans HB0.out hb1⟩
    | true =>
      have HF := Lib.hid (HR.out.trans (show srchA g a BI true = srAllF (srchC g a BI true) g.vals.length g.vals.length by rw [srchA, if_pos]; rw [srchAk, hgo, hwB]; rfl))
      have HW := Lib.hid (fun W => within_any BI 1 20000 W)
      rw [hwB] at HW
      simp only [Bool.and_eq_true] at hgo
      have hn5 := (grOk_iff.1 hgo.1).n5
      clear hgo HR hwB
      go_enter Tryz.func50, Tryz.ntmps50
      go_wp2_with fail
      refine HBO.out.mono ?_
      rintro e w1 ⟨rfl, hb1⟩
      have bG := HBG.out.keep hb1
      have bA := HBA.out.keep hb1
      have bB := HBB.out.keep hb1
      have hb2 := below_trans HB0.out hb1
      have x0 : w1.cell? ⟨w.heap.size, 0, none⟩ = some (.slice A1 n1 c1) := bG.cell 0
      have x1 : w1.cell? ⟨w.heap.size, 1, none⟩ = some (.slice A2 n2 c2) := bG.cell 1
      have y0 : w1.cell? ⟨w.heap.size + 1, 0, none⟩ = some (.int .i64 a.start) := bA.cell 0
      have y1 : w1.cell? ⟨w.heap.size + 1, 1, none⟩ = some (.slice A3 n3 c3) := bA.cell 1
      have y2 : w1.cell? ⟨w.heap.size + 1, 2, none⟩ = some (.slice A4 n4 c4) := bA.cell 2
      have q0 : w1.cell? ⟨w.heap.size + 1 + 1, 0, none⟩ = some (.int .i64 BI) := bB.cell 0
      have l0 := bG.lt
      have l1 := bA.lt
      have l2 := bB.lt
      have HFP := Lib.hid (found_SimplePathAnswers g (srchC g a BI true) w.heap.size (w.heap.size + 1) (w.heap.size + 1 + 1) _ w1 (HGV.out.keep hb2) hn5 (fun x y W hW => cl_SimplePathAnswers g a (x : Int) (y : Int) BI w.heap.size (w.heap.size + 1) (w.heap.size + 1 + 1) A1 A2 A3 A4 n1 c1 n2 c2 n3 c3 n4 c4 W (kcell hW x0) (kcell hW x1) (kcell hW y0) (kcell hW y1) (kcell hW y2) (kcell hW q0) (Nat.lt_of_lt_of_le l0 hW.size) (Nat.lt_of_lt_of_le l1 hW.size) (Nat.lt_of_lt_of_le l2 hW.size) (HGV.out.keep (below_trans hb2 hW)) (HAV.out.keep (below_trans hb2 hW))))
      rw [← HF.out] at HFP
      have HB2 := Lib.hid hb2
      clear bG bA bB hb1 hb2
      go_wp2_with fail
      refine (HW.out _).mono ?_
      rintro e w9 ⟨rfl, hw9⟩
      rw [hw9]
      clear hw9
      go_wp2_with fail
      refine HFP.out.mono ?_
      rintro e w5 ⟨v5, rfl, ho5, hb5⟩
      have hsz5 := HB2.out.size
      have HO := Lib.hid (ho5.mono hsz5 (Nat.le_refl _))
      have HB := Lib.hid (below_trans HB2.out hb5)
      clear ho5 hb5
      go_wp2_with fail
      go_ret2
      exact ⟨_, rfl, HO.out, HB.out⟩
set_option maxHeartbeats 4000000 in
set_option maxRecDepth 100000 in
theorem l20All_true (vg va : Value) (g : Gr) (a : Au) (BI : Int) (w : World) (hgv : GrV 0 w.heap.size w vg g) (hav : AuV 0 w.heap.size w va a) :
    Calls Tryz.prog 66 #[vg, va, .int .i64 BI, .bool true] w fun e w' => ∃ v', e = .returned (.tuple #[v', .bool (srchA g a BI true).isSome]) ∧ Own w.heap.size w'.heap.size w' 63 cPr 2 v' ((srchA g a BI true).getD []) ∧ Below w.heap.size w w' := by
  have hgv0 := hgv
  have hav0 := hav
  obtain ⟨A1, c1, A2, c2, rfl, hl1, hm1, hl2, hm2, -, -⟩ := hgv.form
  obtain ⟨A3, n3, c3, A4, n4, c4, rfl⟩ := hav.shape
  obtain ⟨R, hR⟩ : ∃ R, R = srchA g a BI true := ⟨_, rfl⟩
  rw [← hR]
  obtain ⟨N, hN⟩ : ∃ N, N = g.vals.length := ⟨_, rfl⟩
  have hgd : goodB g a 0 0 = (grOk g && auOk a) := by
    rw [goodB0]
    cases hg : grOk g with
    | false => simp
    | true =>
      have := (grOk_iff.1 hg).n1
      rw [wi_iff.2 ⟨by omega, by omega⟩, Bool.and_true]
  obtain ⟨gO, hgO⟩ : ∃ gO, gO = w.heap.size + 1 + 1 := ⟨_, rfl⟩
  obtain ⟨W0, hW0⟩ : ∃ W0, W0 = ((w.alloc (.cells #[.slice A1 g.vals.length c1, .slice A2 g.edges.length c2] 36)).alloc (.cells #[.int .i64 a.start, .slice A3 n3 c3, .slice A4 n4 c4] 38)).alloc (.cells #[] 63) := ⟨_, rfl⟩
  have hb0 : Below w.heap.size w W0 := by rw [hW0]; exact (((Below.refl _ _).alloc (Nat.le_refl _) _).alloc (by simp) _).alloc (by simp; omega) _
  have bG : Blk W0 w.heap.size 36 #[.slice A1 g.vals.length c1, .slice A2 g.edges.length c2] := by rw [hW0]; exact ((Blk.new w _ _ w.heap.size rfl).alloc _).alloc _
  have bA : Blk W0 (w.heap.size + 1) 38 #[.int .i64 a.start, .slice A3 n3 c3, .slice A4 n4 c4] := by rw [hW0]; exact (Blk.new (w.alloc _) _ _ (w.heap.size + 1) (by simp)).alloc _
  have hrow0 : W0.ownsRow gO 63 2 (.slice (some ⟨gO, 0, none⟩) 0 0) ([] : List Pr).length (([] : List Pr).flatMap cPr) := by
    rw [hW0, hgO]
    have h := World.ownsRow_lit (base := w.heap.size + 1 + 1) (e := 63) (size := 2) ((w.alloc (.cells #[.slice A1 g.vals.length c1, .slice A2 g.edges.length c2] 36)).alloc (.cells #[.int .i64 a.start, .slice A3 n3 c3, .slice A4 n4 c4] 38)) #[] 0 (by simp) (by decide) rfl
    simpa using h
  have HGX := Lib.hid (l14Good_any _ _ g a 0 0 W0 (hgv0.keep hb0) (hav0.keep hb0))
  rw [hgd] at HGX
  have HROW0 := Lib.hid hrow0
  have HB0 := Lib.hid hb0
  have HGV := Lib.hid hgv0
  have HAV := Lib.hid hav0
  have HHW := Lib.hid (And.intro hW0 hgO)
  have hsW : gO < W0.heap.size := by rw [hW0, hgO]; simp
  have hwg : w.heap.size + 1 < gO := by omega
  have hwg0 : w.heap.size < gO := by omega
  clear hgv hav hgv0 hav0 hb0 hrow0 hW0 hgO hgd
  go_enter Tryz.func66, Tryz.ntmps66
  go_wp2_with fail
  rw [← HHW.out.1, ← HHW.out.2]
  clear HHW
  cases hgo : (grOk g && auOk a) with
  | false =>
    rw [hgo] at HGX
    have HF := Lib.hid (hR.trans (show srchA g a BI true = none by rw [srchA, if_neg]; rw [srchAk, hgo]; simp))
    refine HGX.out.mono ?_
    rintro e w1 ⟨rfl, hb1⟩
    have bG := bG.keep hb1
    have x0 : w1.cell? ⟨w.heap.size, 0, none⟩ = some (.slice A1 g.vals.length c1) := bG.cell 0
    have x1 : w1.cell? ⟨w.heap.size, 1, none⟩ = some (.slice A2 g.edges.length c2) := bG.cell 1
    have l0 := bG.lt
    have HOF := Lib.hid ((Own.of_row (xs := ([] : List Pr)) (ownsRow_below HROW0.out hb1 (Nat.le_refl _)) rfl rfl).mono (show w.heap.size ≤ gO by omega) (Nat.le_refl _))
    have HBF := Lib.hid (below_trans HB0.out hb1)
    clear bG hb1
    go_wp2_with fail
    go_loopw [10, 12] (fun oo ii wr => oo = .slice (some ⟨gO, 0, none⟩) 0 0 ∧ ii = .int .i64 0 ∧ wr = w1) (fun _ _ _ => 0)
    case atStart => exact ⟨rfl, rfl, rfl⟩
    case round =>
      obtain ⟨rfl, rfl, hw⟩ := hrel
      rw [hw]
      clear hw
      go_wp2_with fail
      all_goals go_ret2
      all_goals rw [HF.out]
      all_goals exact ⟨_, rfl, HOF.out, HBF.out⟩
  | true =>
    rw [hgo] at HGX
    refine HGX.out.mono ?_
    rintro e w1 ⟨rfl, hb1⟩
    have HW := Lib.hid (fun W => l1In_any BI 1 20000 W)
    go_wp2_with fail
    cases hwB : wi BI 1 20000 with
    | false =>
      rw [hwB] at HW
      have HF := Lib.hid (hR.trans (show srchA g a BI true = none by rw [srchA, if_neg]; rw [srchAk, hwB]; simp))
      refine (HW.out _).mono ?_
      rintro e w9 ⟨rfl, hw9⟩
      rw [hw9]
      clear hw9
      have bG := bG.keep hb1
      have x0 : w1.cell? ⟨w.heap.size, 0, none⟩ = some (.slice A1 g.vals.length c1) := bG.cell 0
      have x1 : w1.cell? ⟨w.heap.size, 1, none⟩ = some (.slice A2 g.edges.length c2) := bG.cell 1
      have l0 := bG.lt
      have HOF := Lib.hid ((Own.of_row (xs := ([] : List Pr)) (ownsRow_below HROW0.out hb1 (Nat.le_refl _)) rfl rfl).mono (show w.heap.size ≤ gO by omega) (Nat.le_refl _))
      have HBF := Lib.hid (below_trans HB0.out hb1)
      clear bG hb1
      go_wp2_with fail
      go_loopw [10, 12] (fun oo ii wr => oo = .slice (some ⟨gO, 0, none⟩) 0 0 ∧ ii = .int .i64 0 ∧ wr = w1) (fun _ _ _ => 0)
      case atStart => exact ⟨rfl, rfl, rfl⟩
      case round =>
        obtain ⟨rfl, rfl, hw⟩ := hrel
        rw [hw]
        clear hw
        go_wp2_with fail
        all_goals go_ret2
        all_goals rw [HF.out]
        all_goals exact ⟨_, rfl, HOF.out, HBF.out⟩
    | true =>
      rw [hwB] at HW
      refine (HW.out _).mono ?_
      rintro e w9 ⟨rfl, hw9⟩
      rw [hw9]
      clear hw9 HW HGX
      have HR := Lib.hid (hR.trans (show srchA g a BI true = srAllF (srchC g a BI true) N N by rw [srchA, if_pos, hN]; rw [srchAk, hgo, hwB]; rfl))
      simp only [Bool.and_eq_true] at hgo
      have hn5 := (grOk_iff.1 hgo.1).n5
      rw [← hN] at hn5 hl1
      have bG := bG.keep hb1
      have bA := bA.keep hb1
      have x0 : w1.cell? ⟨w.heap.size, 0, none⟩ = some (.slice A1 N c1) := by rw [hN]; exact bG.cell 0
      have x1 : w1.cell? ⟨w.heap.size, 1, none⟩ = some (.slice A2 g.edges.length c2) := bG.cell 1
      have y0 : w1.cell? ⟨w.heap.size + 1, 0, none⟩ = some (.int .i64 a.start) := bA.cell 0
      have y1 : w1.cell? ⟨w.heap.size + 1, 1, none⟩ = some (.slice A3 n3 c3) := bA.cell 1
      have y2 : w1.cell? ⟨w.heap.size + 1, 2, none⟩ = some (.slice A4 n4 c4) := bA.cell 2
      have l0 := bG.lt
      have l1 := bA.lt
      have HB1 := Lib.hid (below_trans HB0.out hb1)
      have HROW1 := Lib.hid (ownsRow_below HROW0.out hb1 (Nat.le_refl _))
      have hs1 := hb1.size
      rw [← hN] at HGV
      obtain ⟨f, hf⟩ : ∃ f, f = srchC g a BI true := ⟨_, rfl⟩
      have HFD := Lib.hid (fun (x y : Nat) (W : World) (hW : Below w.heap.size w W) => by
        have h := l20Find_true _ _ g a (x : Int) (y : Int) BI W (HGV.out.keep hW) (HAV.out.keep hW)
        rw [show (srchL g a (x : Int) (y : Int) BI true).2 = f x y by rw [hf]; rfl] at h
        exact h)
      rw [← hf] at HR
      clear hN hgo hwB bG bA hb1 HROW0 HB0 hR hf HGV HAV
      go_wp2_with fail
      go_loopw [10, 12] (fun oo ii wr => ∃ (i : Nat) (L : List Pr), i ≤ N ∧ ii = .int .i64 (i : Int) ∧ srAllF f N i = some L ∧ wr.ownsRow gO 63 2 oo L.length (L.flatMap cPr) ∧ Below gO w1 wr) (fun _ ii _ => N - (intOf ii).toNat)
      case atStart => exact ⟨0, [], Nat.zero_le _, rfl, rfl, HROW1.out, Below.refl _ _⟩
      case round =>
        clear HROW1
        obtain ⟨i, L, hi, rfl, hL, hrow, hbel⟩ := hrel
        have HL := Lib.hid hL
        have HROW := Lib.hid hrow
        have HBEL := Lib.hid hbel
        have hsz := hbel.size
        have X0 := Lib.hid x0
        have X1 := Lib.hid x1
        have Y0 := Lib.hid y0
        have Y1 := Lib.hid y1
        have Y2 := Lib.hid y2
        have x0 := (HBEL.out.cell (p := ⟨w.heap.size, 0, none⟩) (by simp only; omega)).trans x0
        have x1 := (HBEL.out.cell (p := ⟨w.heap.size, 1, none⟩) (by simp only; omega)).trans x1
        have l0 : w.heap.size < wr.heap.size := by omega
        clear hL hrow hbel
        by_cases hlt : i < N
        · have hii : (i : Int) < (N : Int) := by omega
          obtain ⟨wo, rfl⟩ : ∃ wo : World, wo = wr := ⟨_, rfl⟩
          go_wp2_with fail
          go_loopw [10, 13] (fun oo jj wr => ∃ (j : Nat) (M : List Pr), j ≤ N ∧ jj = .int .i64 (j : Int) ∧ srRowF f i (srAllF f N i) j = some M ∧ wr.ownsRow gO 63 2 oo M.length (M.flatMap cPr) ∧ Below gO w1 wr) (fun _ jj _ => N - (intOf jj).toNat)
          case atStart => exact ⟨0, L, Nat.zero_le _, rfl, HL.out, HROW.out, HBEL.out⟩
          case round =>
            clear HROW HBEL hsz l0 x0 x1
            obtain ⟨j, M, hj, rfl, hM, hrow2, hbel2⟩ := hrel
            have HM := Lib.hid hM
            have HROW2 := Lib.hid hrow2
            have HBEL2 := Lib.hid hbel2
            have hsz2 := hbel2.size
            have HBW2 := Lib.hid (HB1.out.trans (hbel2.mono (show w.heap.size ≤ gO by omega)))
            have hml := srRowF_len (f := f) (x := i) (st := srAllF f N i) (n := 25) (fun L2 h2 => by have h3 := srAllF_len i L2 h2; have h4 : i * N ≤ 5 * 5 := Nat.mul_le_mul (by omega) hn5; omega) j M hM
            have x0 := (hbel2.cell (p := ⟨w.heap.size, 0, none⟩) (by simp only; omega)).trans X0.out
            have x1 := (hbel2.cell (p := ⟨w.heap.size, 1, none⟩) (by simp only; omega)).trans X1.out
            have y0 := (hbel2.cell (p := ⟨w.heap.size + 1, 0, none⟩) (by simp only; omega)).trans Y0.out
            have y1 := (hbel2.cell (p := ⟨w.heap.size + 1, 1, none⟩) (by simp only; omega)).trans Y1.out
            have y2 := (hbel2.cell (p := ⟨w.heap.size + 1, 2, none⟩) (by simp only; omega)).trans Y2.out
            have l0 : w.heap.size < wr.heap.size := by omega
            have l1 : w.heap.size + 1 < wr.heap.size := by omega
            clear hM hrow2 hbel2
            by_cases hlj : j < N
            · have hjj : (j : Int) < (N : Int) := by omega
              have HC1 := Lib.hid (fun h => srRowF_one (f := f) (x := i) HM.out h)
              have HC0 := Lib.hid (fun h h2 => srRowF_on (f := f) (x := i) HM.out h h2)
              have HC3 := Lib.hid (fun h => srAllF_out (f := f) hlt hlj HM.out h)
              have HCX := Lib.hid (HFD.out i j wr HBW2.out)
              generalize f i j = c at *
              go_wp2_with fail
              refine HCX.out.mono ?_
              rintro e w4 ⟨v4, rfl, ⟨ss, rfl, hown⟩, hb4⟩
              obtain ⟨A9, n9, c9, rfl⟩ := hown.shape
              obtain ⟨V1, hV1⟩ : ∃ V1, V1 = (srchL g a (i : Int) (j : Int) BI true).1.1 := ⟨_, rfl⟩
              rw [← hV1]
              clear hV1 hown
              obtain ⟨w5, hw5⟩ : ∃ w5, w5 = w4.alloc (.cells #[.int .i64 V1, .slice A9 n9 c9] 59) := ⟨_, rfl⟩
              have hb5 : Below wr.heap.size wr w5 := by rw [hw5]; exact hb4.alloc hb4.size _
              have hb6 := HBEL2.out.trans (hb5.mono (show gO ≤ wr.heap.size by omega))
              have HR5 := Lib.hid (ownsRow_below HROW2.out hb5 (Nat.le_refl _))
              have HB6 := Lib.hid hb6
              have hs6 := hb6.size
              have HW5 := Lib.hid hw5
              clear hb5 hb6 hb4 hw5
              go_upto_region 10 with fail
              rw [← HW5.out]
              clear HW5
              by_cases h3 : c = 3
              · have k3 : (c == 3) = true := by simp [h3]
                have k4 : decide (c = 3) = true := by simp [h3]
                have HN3 := Lib.hid (HR.out.trans (HC3.out h3))
                clear HC1 HC0 HC3
                subst h3
                have HBF := Lib.hid (HB1.out.trans (HB6.out.mono (show w.heap.size ≤ gO by omega)))
                have hswf := HBF.out.size
                go_wp2_with fail
                go_ret2
                rw [HN3.out]
                exact ⟨_, rfl, lit_nilA hswf, HBF.out.alloc hswf _⟩
              · have k3 : (c == 3) = false := by simp [h3]
                have k4 : decide (c = 3) = false := by simp [h3]
                by_cases h1 : c = 1
                · have k1 : (c == 1) = true := by simp [h1]
                  have k2 : decide (c = 1) = true := by simp [h1]
                  have HN1 := Lib.hid (HC1.out h1)
                  clear HC1 HC0 HC3 h3
                  subst h1
                  go_wp2_with (at_builtin; (refine wpList_append1 cPr elPair rfl _ _ rfl gO _ M ((i : Int), (j : Int)) _ 1 w5.heap.size (by rfl) HR5.out (by rfl) rfl rfl rfl (cPr_one _) (by omega) (by omega) (by omega) ?_); intro v' w7 hrow7 hb7 _ _)
                  go_roundw
                  case rel => exact ⟨j + 1, _, by omega, by go_num, HN1.out, hrow7, HB6.out.trans hb7⟩
                  case measure => simp [intOf]; omega
                · have k1 : (c == 1) = false := by simp [h1]
                  have k2 : decide (c = 1) = false := by simp [h1]
                  have HN0 := Lib.hid (HC0.out h1 h3)
                  clear HC1 HC0 HC3 h1 h3
                  go_wp2_with fail
                  go_roundw
                  case rel => exact ⟨j + 1, _, by omega, by go_num, HN0.out, HR5.out, HB6.out⟩
                  case measure => simp [intOf]; omega
            · obtain rfl : j = N := by omega
              rw [← srAllF_succ] at HM
              go_wp2_with fail
              go_roundw
              case rel => exact ⟨i + 1, _, by omega, by go_num, HM.out, HROW2.out, HBEL2.out⟩
              case measure => simp [intOf]; omega
        · obtain rfl : i = N := by omega
          have hRe := HR.out.trans HL.out
          have HRE := Lib.hid hRe
          have HBF := Lib.hid (HB1.out.trans (HBEL.out.mono (show w.heap.size ≤ gO by omega)))
          have HOF := Lib.hid ((Own.of_row (xs := L) HROW.out rfl rfl).mono (show w.heap.size ≤ gO by omega) (Nat.le_refl _))
          clear hRe
          go_wp2_with fail
          go_ret2
          rw [HRE.out]
          exact ⟨_, rfl, HOF.out, HBF.out⟩
set_option maxHeartbeats 4000000 in
theorem specSimplePathAnswers (vg va : Value) (g : Gr) (a : Au) (BI : Int) (w : World) (hgv : GrV 0 w.heap.size w vg g) (hav : AuV 0 w.heap.size w va a) :
    Calls Tryz.prog 47 #[vg, va, .int .i64 BI] w fun e w' => ∃ v', e = .returned (.tuple #[v', .bool (srchA g a BI true).isSome]) ∧ Own w.heap.size w'.heap.size w' 63 cPr 2 v' ((srchA g a BI true).getD []) ∧ Below w.heap.size w w' := by
  have hgv0 := hgv
  have hav0 := hav
  obtain ⟨A1, n1, c1, A2, n2, c2, rfl⟩ := hgv.shape
  obtain ⟨A3, n3, c3, A4, n4, c4, rfl⟩ := hav.shape
  have hb0 : Below w.heap.size w ((w.alloc (.cells #[.slice A1 n1 c1, .slice A2 n2 c2] 36)).alloc (.cells #[.int .i64 a.start, .slice A3 n3 c3, .slice A4 n4 c4] 38)) := ((Below.refl _ _).alloc (Nat.le_refl _) _).alloc (by simp) _
  have HC := Lib.hid (l20All_true _ _ g a BI _ (hgv0.keep hb0) (hav0.keep hb0))
  generalize srchA g a BI true = R at *
  have HB0 := Lib.hid hb0
  have hsz0 := hb0.size
  clear hgv hav hgv0 hav0 hb0
  go_enter Tryz.func47, Tryz.ntmps47
  go_wp2_with fail
  refine HC.out.mono ?_
  rintro e w1 ⟨v1, rfl, hown, hb1⟩
  have HO := Lib.hid (hown.mono hsz0 (Nat.le_refl _))
  have HB := Lib.hid (below_trans HB0.out hb1)
  clear hown hb1 HC
  go_wp2_with fail
  go_ret2
  exact ⟨_, rfl, HO.out, HB.out⟩
end Go.Proofs.YtpbfdmfkmbdpkaaGreat
namespace Go.Proofs.YtpbfdmfkmbdpkaaGreat
set_option linter.unusedVariables false
set_option linter.unusedSimpArgs false
open Go.ChangeShapes Go.WideShapes Go.ChangeAt Go.RowKit
attribute [local go_sem] ext_cell ext_frozen ext_lt ext_lt1 ext_lt2 ext_lt3 ltn2 ltn3 ltn13 lts1 lts2 lts3
end Go.Proofs.YtpbfdmfkmbdpkaaGreat
namespace Go.Proofs.YtpbfdmfkmbdpkaaGreat
set_option linter.unusedVariables false
set_option linter.unusedSimpArgs false
open Go.ChangeShapes Go.WideShapes Go.ChangeAt Go.RowKit
attribute [local go_sem] ext_cell ext_frozen ext_lt ext_lt1 ext_lt2 ext_lt3 ltn2 ltn3 ltn13 lts1 lts2 lts3
set_option maxHeartbeats 4000000 in
set_option maxRecDepth 100000 in
theorem implAnswersFrom (vg va : Value) (g : Gr) (a : Au) (x : Int) (w : World) (hgv : GrV 0 w.heap.size w vg g) (hav : AuV 0 w.heap.size w va a) :
    Calls Tryz.prog 62 #[vg, va, .int .i64 x] w fun e w' => ∃ v', e = .returned v' ∧ Own w.heap.size w'.heap.size w' 3 cI 1 v' (ansL g a x) ∧ Below w.heap.size w w' := by
  have hgv0 := hgv
  have hav0 := hav
  obtain ⟨A1, c1, A2, c2, rfl, hl1, hm1, hl2, hm2, hC1, -⟩ := hgv.form
  obtain ⟨ac, nx, rfl, hac, hnx⟩ := hav
  obtain ⟨A3, c3, rfl, hl3, hm3, -⟩ := SlE.form hac
  obtain ⟨A4, n4, c4, rfl⟩ := hnx.shape
  have hb0 : Below w.heap.size w ((w.alloc (.cells #[.slice A1 g.vals.length c1, .slice A2 g.edges.length c2] 36)).alloc (.cells #[.int .i64 a.start, .slice A3 a.accept.length c3, .slice A4 n4 c4] 38)) := ((Below.refl _ _).alloc (Nat.le_refl _) _).alloc (by simp) _
  have HGV := Lib.hid hgv0
  have HAV := Lib.hid hav0
  have HC1 := Lib.hid hC1
  clear hgv hac hnx hgv0 hav0 hC1
  go_enter Tryz.func62, Tryz.ntmps62
  go_wp2_with fail
  obtain ⟨W0, hW0⟩ : ∃ W0, W0 = ((w.alloc (.cells #[.slice A1 g.vals.length c1, .slice A2 g.edges.length c2] 36)).alloc (.cells #[.int .i64 a.start, .slice A3 a.accept.length c3, .slice A4 n4 c4] 38)).alloc (.cells #[] 3) := ⟨_, rfl⟩
  have hb0 : Below w.heap.size w W0 := by rw [hW0]; exact hb0.alloc hb0.size _
  rw [← hW0]
  have bx : Blk W0 w.heap.size 36 #[.slice A1 g.vals.length c1, .slice A2 g.edges.length c2] := by rw [hW0]; exact ((Blk.new w _ _ w.heap.size rfl).alloc _).alloc _
  have by_ : Blk W0 (w.heap.size + 1) 38 #[.int .i64 a.start, .slice A3 a.accept.length c3, .slice A4 n4 c4] := by rw [hW0]; exact (Blk.new (w.alloc _) _ _ (w.heap.size + 1) (by simp)).alloc _
  have hrow0 : W0.ownsRow (w.heap.size + 1 + 1) 3 1 (.slice (some ⟨w.heap.size + 1 + 1, 0, none⟩) 0 0) ([] : List Int).length (([] : List Int).flatMap cI) := by
    rw [hW0]
    have h := World.ownsRow_lit (base := w.heap.size + 1 + 1) (e := 3) (size := 1) ((w.alloc (.cells #[.slice A1 g.vals.length c1, .slice A2 g.edges.length c2] 36)).alloc (.cells #[.int .i64 a.start, .slice A3 a.accept.length c3, .slice A4 n4 c4] 38)) #[] 0 (by simp) (by decide) rfl
    simpa using h
  have x0 : W0.cell? ⟨w.heap.size, 0, none⟩ = some (.slice A1 g.vals.length c1) := by exact bx.cell 0
  have x1 : W0.cell? ⟨w.heap.size, 1, none⟩ = some (.slice A2 g.edges.length c2) := by exact bx.cell 1
  have y0 : W0.cell? ⟨w.heap.size + 1, 0, none⟩ = some (.int .i64 a.start) := by exact by_.cell 0
  have y1 : W0.cell? ⟨w.heap.size + 1, 1, none⟩ = some (.slice A3 a.accept.length c3) := by exact by_.cell 1
  have y2 : W0.cell? ⟨w.heap.size + 1, 2, none⟩ = some (.slice A4 n4 c4) := by exact by_.cell 2
  have l0 := by_.lt
  have l00 := bx.lt
  have HROW0 := Lib.hid hrow0
  have hsW : W0.heap.size = w.heap.size + 1 + 1 + 1 := by rw [hW0]; simp
  have hsW' : w.heap.size + 1 + 1 < W0.heap.size := by omega
  have HSW := Lib.hid hsW
  clear hW0 bx by_ hrow0 hsW
  refine (implDistancesFrom _ _ g a x W0 (HGV.out.keep hb0) (HAV.out.keep hb0)).mono ?_
  rintro e w1 ⟨v1, rfl, ho1, hb1⟩
  have hb2 := below_trans hb0 hb1
  have x0 := kcell hb1 x0
  have x1 := kcell hb1 x1
  have y0 := kcell hb1 y0
  have y1 := kcell hb1 y1
  have y2 := kcell hb1 y2
  have hs1 := hb1.size
  have hs0 := hb0.size
  have l0 := Nat.lt_of_lt_of_le l0 hs1
  have l00 := Nat.lt_of_lt_of_le l00 hs1
  have HROW1 := Lib.hid (ownsRow_below HROW0.out hb1 (Nat.le_refl _))
  have HC6 := Lib.hid (ho1.sl cI_len)
  obtain ⟨A6, c6, rfl, hl6, hm6, -⟩ := ho1.form cI_len
  clear ho1 hb1 hb0 HROW0
  cases hk : (wi x 0 ((g.vals.length : Int) - 1) && (grOk g && auOk a)) with
  | false =>
    have hd0 : distFrom g a x = [] := by rw [distFrom, hk]; rfl
    have hr0 : ansL g a x = [] := by rw [ansL, hk]; rfl
    rw [hd0, List.length_nil]
    have has := ascending_any (.slice (some ⟨w.heap.size + 1 + 1, 0, none⟩) 0 0) [] w1 (((Own.of_row (xs := ([] : List Int)) HROW1.out rfl rfl).sl cI_len).all (Nat.le_refl _)) (by simp)
    rw [show ascL [] = [] by simp [ascL, Lib.compact, Lib.compactUpTo], ← hr0] at has
    have HAS := Lib.hid has
    clear hk hd0 hr0 has HC6
    go_wp2_with fail
    go_loopw [7, 20] (fun oo ii wr => oo = .slice (some ⟨w.heap.size + 1 + 1, 0, none⟩) 0 0 ∧ ii = .int .i64 0 ∧ wr = w1) (fun _ _ _ => 0)
    case atStart => exact ⟨rfl, rfl, rfl⟩
    case round =>
      obtain ⟨rfl, rfl, rfl⟩ := hrel
      go_wp2_with fail
      refine HAS.out.mono ?_
      rintro e w2 ⟨v2, rfl, ho2, hb3⟩
      have HO := Lib.hid (ho2.mono hb2.size (Nat.le_refl _))
      obtain ⟨A9, n9, c9, rfl⟩ := ho2.shape
      clear ho2
      go_wp2_with fail
      go_ret
      exact ⟨_, rfl, HO.out, below_trans hb2 hb3⟩
  | true =>
    have hasc := ansL_asc hk
    have hdl := distFrom_len hk
    simp only [Bool.and_eq_true, wi_iff] at hk
    obtain ⟨⟨hx0, hx1⟩, hgo, ha⟩ := hk
    have hg := grOk_iff.1 hgo
    have hn5 := hg.n5
    have hn12 := (auOk_iff.1 ha).1.2
    have hn1 := (auOk_iff.1 ha).1.1
    obtain ⟨N, hN⟩ : ∃ N, N = g.vals.length * a.accept.length := ⟨_, rfl⟩
    have hN60 : N ≤ 60 := by rw [hN]; exact Nat.mul_le_mul hn5 hn12
    rw [← hN] at hdl hasc
    generalize distFrom g a x = D at *
    rw [hdl] at hl6 ⊢
    have HDL := Lib.hid hdl
    have HASC := Lib.hid hasc
    have HN := Lib.hid hN
    have HGO := Lib.hid hg
    have HAO := Lib.hid ha
    clear hdl hasc hN hg hgo ha hx0 hx1
    go_wp2_with fail
    have hsw := HSW.out
    obtain ⟨gO, hgO⟩ : ∃ gO, gO = w.heap.size + 1 + 1 := ⟨_, rfl⟩
    rw [← hgO] at HROW1 hsW' hsw ⊢
    have hgw : w.heap.size + 1 < gO := by omega
    clear hgO
    go_loopw [7, 20] (fun oo ii wr => ∃ i : Nat, i ≤ N ∧ ii = .int .i64 (i : Int) ∧ wr.ownsRow gO 3 1 oo (ansF g a D i).length ((ansF g a D i).flatMap cI) ∧ Only gO (gO + 1) w1 wr ∧ (∀ b, oo.ownBlock = some b → b = gO ∨ w1.heap.size ≤ b)) (fun _ ii _ => N - (intOf ii).toNat)
    case atStart => exact ⟨0, Nat.zero_le _, rfl, HROW1.out, Only.refl _ _ _, fun b hb => by cases hb; exact .inl rfl⟩
    case round =>
      clear HROW1
      obtain ⟨i, hi, rfl, hrow, hon, hob⟩ := hrel
      have x0 := ocell hon x0 l00 (.inl (by omega))
      have x1 := ocell hon x1 l00 (.inl (by omega))
      have y0 := ocell hon y0 l0 (.inl (by omega))
      have y1 := ocell hon y1 l0 (.inl (by omega))
      have y2 := ocell hon y2 l0 (.inl (by omega))
      have hsz := hon.size
      have l0 := Nat.lt_of_lt_of_le l0 hsz
      have l00 := Nat.lt_of_lt_of_le l00 hsz
      have hbw := hb2.trans (hon.below (B := w.heap.size) (by omega) hb2.size)
      have HBW := Lib.hid hbw
      have HROW := Lib.hid hrow
      have HOB := Lib.hid hob
      have HON := Lib.hid hon
      have hfl := ansF_len g a D i
      clear hrow hob hbw hon
      by_cases hlt : i < N
      · have hgp : g.vals.length * a.accept.length = N := HN.out.symm
        obtain ⟨X, hX⟩ : ∃ X, X = i / a.accept.length := ⟨_, rfl⟩
        obtain ⟨S, hS⟩ : ∃ S, S = i % a.accept.length := ⟨_, rfl⟩
        have hXl : X < g.vals.length := by rw [hX]; exact Nat.div_lt_of_lt_mul (by rw [Nat.mul_comm, hgp]; exact hlt)
        have hSl : S < a.accept.length := by rw [hS]; exact Nat.mod_lt _ hn1
        have t1 : (i : Int).tdiv (a.accept.length : Int) = (X : Int) := by rw [hX]; rfl
        have t2 : (i : Int).tmod (a.accept.length : Int) = (S : Int) := by rw [hS]; rfl
        have hn0 : ((a.accept.length : Int) == 0) = false := by simp only [beq_eq_false_iff_ne, ne_eq]; omega
        have hae : a.accept ≠ [] := by intro h; rw [h] at hn1; simp at hn1
        have hdi := getD_of (D := D) (k := i) (by have := HDL.out; omega)
        obtain ⟨b6, o6, rfl, hb60, hb6, d6⟩ := HC6.out.intI hdi
        have d6 := ocell HON.out d6 hb6 (.inr (by omega))
        have hvi : g.vals[X]? = some g.vals[X] := List.getElem?_eq_getElem hXl
        have hvr := HGO.out.vals _ (List.getElem_mem hXl)
        generalize g.vals[X] = vx at hvi hvr
        obtain ⟨vx, rfl⟩ := Int.eq_ofNat_of_zero_le hvr.1
        have hva := valAt_of hvi
        rw [Int.toNat_natCast] at hva
        obtain ⟨b1, o1, rfl, hb1, d1⟩ := HC1.out.int hvi
        have d1 := kcell HBW.out d1
        have hb1w := Nat.lt_of_lt_of_le hb1 HBW.out.size
        have hb6w := Nat.lt_of_lt_of_le hb6 hsz
        have hii : (i : Int) < (N : Int) := by omega
        have hxx : (X : Int) < (g.vals.length : Int) := by omega
        have HOK := Lib.hid (show okV g a D i = (decide (0 ≤ D.getD i 0) && accC a vx S) by rw [okV, ← hX, ← hS, hva])
        have HY := Lib.hid (fun h : okV g a D i = true => (ansF_yes h).trans (by rw [← hX] : ansF g a D i ++ [((i / a.accept.length : Nat) : Int)] = ansF g a D i ++ [(X : Int)]))
        have HNo := Lib.hid (fun h : okV g a D i = false => ansF_no h)
        have HACC := Lib.hid (show ∀ W, Below w.heap.size w W → Calls Tryz.prog 93 #[.agg #[.int .i64 a.start, .slice A3 a.accept.length c3, .slice A4 n4 c4], .int .i64 (bit S : Int), .int .i64 (vx : Int)] W fun e w' => e = .returned (.bool (accC a vx S)) ∧ Below W.heap.size W w' from fun W hW => by
          have h := acceptsAt_any _ a (bit S) vx W (HAV.out.keep hW) HAO.out (bit_lt hSl) (by omega)
          rwa [acc_one _ _ (show S < 12 by omega)] at h)
        clear hX hS hgp hdi hvi hva
        generalize D.getD i 0 = d at *
        generalize ansF g a D i = L at *
        by_cases hd : 0 ≤ d
        · have hd0 : decide (d ≥ 0) = true := by simpa using hd
          rw [show decide (0 ≤ d) = true by simpa using hd, Bool.true_and] at HOK
          have s1 := shl_bit (s := S) (by omega)
          have s2 := shl_bit2 (s := S) (by omega)
          have s3 := shl_bit3 (s := S) (by omega)
          have q1 : IntKind.i64.wrap (X : Int) = (X : Int) := IntWalk.i64_in _ (by omega)
          have q2 : IntKind.i64.wrap (S : Int) = (S : Int) := IntWalk.i64_in _ (by omega)
          go_wp2_with fail
          refine wp_region_ext_lit (by kernel_rfl) (by kernel_rfl) ?_
          repeat (go_big_quiet_step ((go_at_call 93; exact Calls.ext_of (HACC.out _ (below_trans HBW.out (ext_below _ _))))))
          refine wpQuiet_nil ?_
          intro _ hw'
          obtain ⟨u2, hw''⟩ := hw'
          subst hw''
          have hbu := ext_below wr u2
          have hsu := hbu.size
          have HR2 := Lib.hid (ownsRow_below HROW.out hbu (Nat.le_refl _))
          have HON2 := Lib.hid (HON.out.trans (Only.of_below hbu gO (gO + 1)))
          clear s1 s2 s3 q1 q2
          generalize ext wr u2 = wx at *
          cases hc : accC a vx S with
          | true =>
            have HM := Lib.hid (HY.out (by rw [HOK.out, hc]))
            clear hc
            go_wp2_with (at_builtin; (refine wpList_append1 cI elInt rfl _ _ rfl gO _ L (X : Int) _ 1 _ (by rfl) HR2.out (by rfl) rfl rfl rfl (cI_one _) (by omega) (by omega) (by omega) ?_); intro v' w4 hrow' hb4 hat4 hgr4)
            go_roundw
            case rel =>
              refine ⟨i + 1, by omega, by go_num, by rw [HM.out]; exact hrow', (HON2.out.alloc _).grown hgr4 (fun b hb => by have := HOB.out b hb; omega), fun b hb => ?_⟩
              rcases hat4 with h1 | ⟨g1, h1, h2⟩
              · exact HOB.out b (by rw [← h1]; exact hb)
              · rw [h1] at hb
                injection hb with hb
                exact .inr (by omega)
            case measure => simp [intOf]; omega
          | false =>
            have HM := Lib.hid (HNo.out (by rw [HOK.out, hc]))
            clear hc
            go_wp2_with fail
            go_roundw
            case rel => exact ⟨i + 1, by omega, by go_num, by rw [HM.out]; exact HR2.out, HON2.out, HOB.out⟩
            case measure => simp [intOf]; omega
        · have hd0 : decide (d ≥ 0) = false := by simpa using hd
          have HM := Lib.hid (HNo.out (by rw [HOK.out, show decide (0 ≤ d) = false by simpa using hd]; rfl))
          go_wp2_with fail
          refine wp_region_ext_lit (by kernel_rfl) (by kernel_rfl) ?_
          repeat (go_big_quiet_step (fail))
          refine wpQuiet_nil ?_
          intro _ hw'
          obtain ⟨u2, hw''⟩ := hw'
          subst hw''
          have hbu := ext_below wr u2
          have HR2 := Lib.hid (ownsRow_below HROW.out hbu (Nat.le_refl _))
          have HON2 := Lib.hid (HON.out.trans (Only.of_below hbu gO (gO + 1)))
          generalize ext wr u2 = wx at *
          go_wp2_with fail
          go_roundw
          case rel => exact ⟨i + 1, by omega, by go_num, by rw [HM.out]; exact HR2.out, HON2.out, HOB.out⟩
          case measure => simp [intOf]; omega
      · obtain rfl : i = N := by omega
        have hown := Own.of_row (xs := ansF g a D i) HROW.out rfl rfl
        have has := ascending_any _ _ wr ((hown.sl cI_len).all (Nat.le_refl _)) (by omega)
        rw [HASC.out] at has
        have HAS := Lib.hid has
        clear has
        go_wp2_with fail
        refine HAS.out.mono ?_
        rintro e w2 ⟨v2, rfl, ho2, hb3⟩
        have HO := Lib.hid (ho2.mono HBW.out.size (Nat.le_refl _))
        obtain ⟨A9, n9, c9, rfl⟩ := ho2.shape
        clear ho2 hown
        go_wp2_with fail
        go_ret
        exact ⟨_, rfl, HO.out, below_trans HBW.out hb3⟩
end Go.Proofs.YtpbfdmfkmbdpkaaGreat
namespace Go.Proofs.YtpbfdmfkmbdpkaaGreat
set_option linter.unusedVariables false
set_option linter.unusedSimpArgs false
open Go.ChangeShapes Go.WideShapes Go.ChangeAt Go.RowKit
attribute [local go_sem] ext_cell ext_frozen ext_lt ext_lt1 ext_lt2 ext_lt3 ltn2 ltn3 ltn13 lts1 lts2 lts3
end Go.Proofs.YtpbfdmfkmbdpkaaGreat
namespace Go.Proofs.YtpbfdmfkmbdpkaaGreat
set_option linter.unusedVariables false
set_option linter.unusedSimpArgs false
open Go.ChangeShapes Go.WideShapes Go.ChangeAt Go.RowKit
attribute [local go_sem] ext_cell ext_frozen ext_lt ext_lt1 ext_lt2 ext_lt3 ltn2 ltn3 ltn13 lts1 lts2 lts3
theorem goodB00 (g : Gr) (a : Au) : goodB g a 0 0 = (grOk g && auOk a) := by
  rw [goodB0]
  cases hg : grOk g with
  | false => simp
  | true =>
    have h1 := (grOk_iff.1 hg).n1
    have h2 : wi 0 0 ((g.vals.length : Int) - 1) = true := wi_iff.2 (by omega)
    rw [h2]
    cases auOk a <;> simp
end Go.Proofs.YtpbfdmfkmbdpkaaGreat
