/- Parts of the proof, joined into one text: AnsT. -/
import Derived.Test.YtajjolkpgfegfaaPartEOLBEOLD
import Derived.Test.YtajjolkpgfegfaaPartBMOJJLNE
import Derived.Test.YtajjolkpgfegfaaPartCPDJAGBF
/- AnswersTo on both sides. -/
namespace Go.Proofs.Ytajjolkpgfegfaa
set_option linter.unusedVariables false
set_option linter.unusedSimpArgs false
open Go.ChangeShapes Go.WideShapes Go.ChangeAt Go.RowKit
attribute [local go_sem] ext_cell ext_frozen ext_lt ext_lt1 ext_lt2 ext_lt3 ltn2 ltn3 ltn13 lts1 lts2 lts3

def ansTP (g : Gr) (a : Au) (y : Int) (i : Nat) : Bool := hasAns g a (i : Int) y
def ansT (g : Gr) (a : Au) (y : Int) : List Int := if (wi y 0 ((g.vals.length : Int) - 1) && (grOk g && auOk a)) = true then pickL (ansTP g a y) g.vals.length else []
theorem ansT_len (g : Gr) (a : Au) (y : Int) : (ansT g a y).length ≤ 5 := by
  unfold ansT
  split
  · rename_i h
    simp only [Bool.and_eq_true] at h
    exact Nat.le_trans (pick_len _ _) (grOk_iff.1 h.2.1).n5
  · simp

set_option maxHeartbeats 4000000 in
set_option maxRecDepth 100000 in
theorem implAnswersTo (vg va : Value) (g : Gr) (a : Au) (y : Int) (w : World) (hgv : GrV 0 w.heap.size w vg g) (hav : AuV 0 w.heap.size w va a) :
    Calls Try.prog 52 #[vg, va, .int .i64 y] w fun e w' => ∃ v', e = .returned v' ∧ Own w.heap.size w'.heap.size w' 3 cI 1 v' (ansT g a y) ∧ Below w.heap.size w w' := by
  obtain ⟨R, hR⟩ : ∃ R, R = ansT g a y := ⟨_, rfl⟩
  rw [← hR]
  have hgv0 := hgv
  have hav0 := hav
  obtain ⟨A1, c1, A2, c2, rfl, hl1, hm1, hl2, hm2, -, -⟩ := hgv.form
  obtain ⟨A3, n3, c3, A4, n4, c4, rfl⟩ := hav.shape
  have hb0 : Below w.heap.size w ((w.alloc (.cells #[.slice A1 g.vals.length c1, .slice A2 g.edges.length c2] 35)).alloc (.cells #[.int .i64 a.start, .slice A3 n3 c3, .slice A4 n4 c4] 37)) := ((Below.refl _ _).alloc (Nat.le_refl _) _).alloc (by simp) _
  have hb1 := hb0.alloc hb0.size (.cells #[.int .i64 y] 3)
  have hst : SlE (((w.alloc (.cells #[.slice A1 g.vals.length c1, .slice A2 g.edges.length c2] 35)).alloc (.cells #[.int .i64 a.start, .slice A3 n3 c3, .slice A4 n4 c4] 37)).alloc (.cells #[.int .i64 y] 3)) cI 1 (.slice (some ⟨w.heap.size + 1 + 1, 0, none⟩) 1 1) [y] := by
    have h := lit_sl ((w.alloc (.cells #[.slice A1 g.vals.length c1, .slice A2 g.edges.length c2] 35)).alloc (.cells #[.int .i64 a.start, .slice A3 n3 c3, .slice A4 n4 c4] 37)) 3 [y] (by unfold maxLen; simp)
    simpa using h
  have hbo := bothOk_any _ _ _ g a [y] _ (hgv0.keep hb1) (hav0.keep hb1) hst
  have bx : Blk (((w.alloc (.cells #[.slice A1 g.vals.length c1, .slice A2 g.edges.length c2] 35)).alloc (.cells #[.int .i64 a.start, .slice A3 n3 c3, .slice A4 n4 c4] 37)).alloc (.cells #[.int .i64 y] 3)) w.heap.size 35 #[.slice A1 g.vals.length c1, .slice A2 g.edges.length c2] := ((Blk.new w _ _ w.heap.size rfl).alloc _).alloc _
  have by_ : Blk (((w.alloc (.cells #[.slice A1 g.vals.length c1, .slice A2 g.edges.length c2] 35)).alloc (.cells #[.int .i64 a.start, .slice A3 n3 c3, .slice A4 n4 c4] 37)).alloc (.cells #[.int .i64 y] 3)) (w.heap.size + 1) 37 #[.int .i64 a.start, .slice A3 n3 c3, .slice A4 n4 c4] := (Blk.new (w.alloc _) _ _ (w.heap.size + 1) (by simp)).alloc _
  have HBO := Lib.hid hbo
  have HGV := Lib.hid hgv0
  have HAV := Lib.hid hav0
  have HBX := Lib.hid bx
  have HBY := Lib.hid by_
  have HB1 := Lib.hid hb1
  clear hgv hav hgv0 hav0 hbo hst bx by_ hb0 hb1
  cases hk : ([y].all (fun s => wi s 0 ((g.vals.length : Int) - 1)) && (grOk g && auOk a)) with
  | false =>
    rw [hk] at HBO
    have hr0 : R = [] := by rw [hR, ansT, if_neg]; simpa using hk
    subst hr0
    clear hk hR HBX HBY
    go_enter Try.func52, Try.ntmps52
    go_wp2_with fail
    refine HBO.out.mono ?_
    rintro e w1 ⟨rfl, hb2⟩
    go_wp2_with fail
    go_ret
    exact ⟨_, rfl, Own.nil _ _ _ _ _ _, below_trans HB1.out hb2⟩
  | true =>
    rw [hk] at HBO
    simp only [List.all_cons, List.all_nil, Bool.and_true, Bool.and_eq_true] at hk
    obtain ⟨hy, hgo, hao⟩ := hk
    have hn5 := (grOk_iff.1 hgo).n5
    have hr1 : R = pickL (ansTP g a y) g.vals.length := by rw [hR, ansT, if_pos (by rw [hy, hgo, hao]; rfl)]
    obtain ⟨P, hP⟩ : ∃ P, P = ansTP g a y := ⟨_, rfl⟩
    have hPi : ∀ i, P i = hasAns g a ((i : Nat) : Int) y := fun i => by rw [hP]; rfl
    rw [← hP] at hr1
    have HR := Lib.hid hr1
    have HP := Lib.hid hPi
    clear hy hgo hao hR hr1 hP hPi
    go_enter Try.func52, Try.ntmps52
    go_wp2_with fail
    refine HBO.out.mono ?_
    rintro e w1 ⟨rfl, hb2⟩
    have hb3 := below_trans HB1.out hb2
    have bx := HBX.out.keep hb2
    have by_ := HBY.out.keep hb2
    have x0 : w1.cell? ⟨w.heap.size, 0, none⟩ = some (.slice A1 g.vals.length c1) := bx.cell 0
    have x1 : w1.cell? ⟨w.heap.size, 1, none⟩ = some (.slice A2 g.edges.length c2) := bx.cell 1
    have y0 : w1.cell? ⟨w.heap.size + 1, 0, none⟩ = some (.int .i64 a.start) := by_.cell 0
    have y1 : w1.cell? ⟨w.heap.size + 1, 1, none⟩ = some (.slice A3 n3 c3) := by_.cell 1
    have y2 : w1.cell? ⟨w.heap.size + 1, 2, none⟩ = some (.slice A4 n4 c4) := by_.cell 2
    have l0 := by_.lt
    have l00 := bx.lt
    clear bx by_ hb2 HB1 HBO HBX HBY
    go_wp2_with fail
    go_loopw [7, 19] (fun oo ii wr => ∃ i : Nat, i ≤ g.vals.length ∧ ii = .int .i64 (i : Int) ∧ wr.ownsRow w1.heap.size 3 1 oo (pickL P i).length ((pickL P i).flatMap cI) ∧ Below w1.heap.size w1 wr) (fun _ ii _ => g.vals.length - (intOf ii).toNat)
    case atStart => exact ⟨0, Nat.zero_le _, rfl, World.ownsRow_lit w1 #[] 0 (Nat.le_refl _) (by decide) rfl, (Below.refl _ _).alloc (Nat.le_refl _) _⟩
    case round =>
      obtain ⟨i, hi, rfl, hrow, hbel⟩ := hrel
      have x0 := kcell hbel x0
      have x1 := kcell hbel x1
      have y0 := kcell hbel y0
      have y1 := kcell hbel y1
      have y2 := kcell hbel y2
      have hsz := hbel.size
      have l0 := Nat.lt_of_lt_of_le l0 hsz
      have l00 := Nat.lt_of_lt_of_le l00 hsz
      have HBW := Lib.hid (below_trans hb3 hbel)
      have HROW := Lib.hid hrow
      have hfl := pick_len P i
      clear hrow
      by_cases hlt : i < g.vals.length
      · have hii : (i : Int) < (g.vals.length : Int) := by omega
        have HPI := Lib.hid (HP.out i)
        have HY := Lib.hid (fun h => pick_yes (p := P) (k := i) h)
        have HNo := Lib.hid (fun h => pick_no (p := P) (k := i) h)
        have HSH := Lib.hid (fun (W : World) (hW : Below w.heap.size w W) => implHasAnswer _ _ g a (i : Int) y W (HGV.out.keep hW) (HAV.out.keep hW))
        generalize hasAns g a (i : Int) y = bb at *
        generalize pickL P i = L at *
        go_wp2_with fail
        refine (HSH.out _ HBW.out).mono ?_
        rintro e w6 ⟨rfl, hb6⟩
        have HR6 := Lib.hid (ownsRow_below HROW.out hb6 (Nat.le_refl _))
        have hs6 := hb6.size
        have hbel6 := hbel.trans (hb6.mono hsz)
        cases hbb : bb with
        | true =>
          have HM := Lib.hid (HY.out (by rw [HPI.out, hbb]))
          go_wp2_with (at_builtin; (refine wpList_append1 cI elInt rfl _ _ rfl w1.heap.size _ L (i : Int) _ 1 _ (by rfl) HR6.out (by rfl) rfl rfl rfl (cI_one _) (by omega) (by omega) (by omega) ?_); intro v' w4 hrow' hb4 _ _)
          go_roundw
          case rel => exact ⟨i + 1, by omega, by go_num, by rw [HM.out]; exact hrow', hbel6.trans hb4⟩
          case measure => simp [intOf]; omega
        | false =>
          have HM := Lib.hid (HNo.out (by rw [HPI.out, hbb]))
          go_wp2_with fail
          go_roundw
          case rel => exact ⟨i + 1, by omega, by go_num, by rw [HM.out]; exact HR6.out, hbel6⟩
          case measure => simp [intOf]; omega
      · obtain rfl : i = g.vals.length := by omega
        have hown := Own.of_row (xs := pickL P g.vals.length) HROW.out rfl rfl
        rw [← HR.out] at hown
        obtain ⟨A9, n9, c9, rfl⟩ := hown.shape
        have HO := Lib.hid (hown.mono hb3.size (Nat.le_refl _))
        clear hown
        go_wp2_with fail
        go_ret
        exact ⟨_, rfl, HO.out, HBW.out⟩

set_option maxHeartbeats 4000000 in
set_option maxRecDepth 100000 in
theorem specAnswersTo (vg va : Value) (g : Gr) (a : Au) (y : Int) (w : World) (hgv : GrV 0 w.heap.size w vg g) (hav : AuV 0 w.heap.size w va a) :
    Calls Try.prog 51 #[vg, va, .int .i64 y] w fun e w' => ∃ v', e = .returned v' ∧ Own w.heap.size w'.heap.size w' 3 cI 1 v' (ansT g a y) ∧ Below w.heap.size w w' := by
  obtain ⟨R, hR⟩ : ∃ R, R = ansT g a y := ⟨_, rfl⟩
  rw [← hR]
  have HRR := Lib.hid hR
  clear hR
  have hgv0 := hgv
  have hav0 := hav
  obtain ⟨A1, c1, A2, c2, rfl, hl1, hm1, hl2, hm2, hC1, -⟩ := hgv.form
  obtain ⟨ac, nx, rfl, hac, hnx⟩ := hav
  obtain ⟨A3, c3, rfl, hl3, hm3, -⟩ := SlE.form hac
  obtain ⟨A4, n4, c4, rfl⟩ := hnx.shape
  have hb0 : Below w.heap.size w ((w.alloc (.cells #[.slice A1 g.vals.length c1, .slice A2 g.edges.length c2] 35)).alloc (.cells #[.int .i64 a.start, .slice A3 a.accept.length c3, .slice A4 n4 c4] 37)) := ((Below.refl _ _).alloc (Nat.le_refl _) _).alloc (by simp) _
  have HGV := Lib.hid hgv0
  have HAV := Lib.hid hav0
  have HC1 := Lib.hid hC1
  clear hgv hac hnx hgv0 hav0 hC1
  go_enter Try.func51, Try.ntmps51
  go_wp2_with fail
  obtain ⟨W0, hW0⟩ : ∃ W0, W0 = ((w.alloc (.cells #[.slice A1 g.vals.length c1, .slice A2 g.edges.length c2] 35)).alloc (.cells #[.int .i64 a.start, .slice A3 a.accept.length c3, .slice A4 n4 c4] 37)).alloc (.cells #[] 3) := ⟨_, rfl⟩
  have hb0 : Below w.heap.size w W0 := by rw [hW0]; exact hb0.alloc hb0.size _
  rw [← hW0]
  have bx : Blk W0 w.heap.size 35 #[.slice A1 g.vals.length c1, .slice A2 g.edges.length c2] := by rw [hW0]; exact ((Blk.new w _ _ w.heap.size rfl).alloc _).alloc _
  have by_ : Blk W0 (w.heap.size + 1) 37 #[.int .i64 a.start, .slice A3 a.accept.length c3, .slice A4 n4 c4] := by rw [hW0]; exact (Blk.new (w.alloc _) _ _ (w.heap.size + 1) (by simp)).alloc _
  have hrow0 : W0.ownsRow (w.heap.size + 1 + 1) 3 1 (.slice (some ⟨w.heap.size + 1 + 1, 0, none⟩) 0 0) ([] : List Int).length (([] : List Int).flatMap cI) := by
    rw [hW0]
    have h := World.ownsRow_lit (base := w.heap.size + 1 + 1) (e := 3) (size := 1) ((w.alloc (.cells #[.slice A1 g.vals.length c1, .slice A2 g.edges.length c2] 35)).alloc (.cells #[.int .i64 a.start, .slice A3 a.accept.length c3, .slice A4 n4 c4] 37)) #[] 0 (by simp) (by decide) rfl
    simpa using h
  have x0 : W0.cell? ⟨w.heap.size, 0, none⟩ = some (.slice A1 g.vals.length c1) := bx.cell 0
  have x1 : W0.cell? ⟨w.heap.size, 1, none⟩ = some (.slice A2 g.edges.length c2) := bx.cell 1
  have y0 : W0.cell? ⟨w.heap.size + 1, 0, none⟩ = some (.int .i64 a.start) := by_.cell 0
  have y1 : W0.cell? ⟨w.heap.size + 1, 1, none⟩ = some (.slice A3 a.accept.length c3) := by_.cell 1
  have y2 : W0.cell? ⟨w.heap.size + 1, 2, none⟩ = some (.slice A4 n4 c4) := by_.cell 2
  have l0 := by_.lt
  have l00 := bx.lt
  have HROW0 := Lib.hid hrow0
  have hsW : W0.heap.size = w.heap.size + 1 + 1 + 1 := by rw [hW0]; simp
  have hsW' : w.heap.size + 1 + 1 < W0.heap.size := by omega
  have HSW := Lib.hid hsW
  clear hW0 bx by_ hrow0 hsW
  have HG := Lib.hid (fun (W : World) (hW : Below w.heap.size w W) => show Calls Try.prog 65 #[_, _, .int .i64 y, .int .i64 0] W fun e w' => e = .returned (.bool (wi y 0 ((g.vals.length : Int) - 1) && (grOk g && auOk a))) ∧ Below W.heap.size W w' by rw [← goodB1]; exact l14Good_any _ _ g a y 0 W (HGV.out.keep hW) (HAV.out.keep hW))
  have hR := HRR.out
  rw [ansT] at hR
  clear HRR
  cases hk : (wi y 0 ((g.vals.length : Int) - 1) && (grOk g && auOk a)) with
  | false =>
    rw [hk] at HG hR
    have hr0 : R = [] := hR
    subst hr0
    have HB0 := Lib.hid hb0
    clear hk hR hb0
    go_loopw [7, 8] (fun oo ii wr => oo = .slice (some ⟨w.heap.size + 1 + 1, 0, none⟩) 0 0 ∧ ii = .int .i64 0 ∧ wr = W0) (fun _ _ _ => 0)
    case atStart => exact ⟨rfl, rfl, rfl⟩
    case round =>
      obtain ⟨rfl, rfl, rfl⟩ := hrel
      have hO := Lib.hid ((Own.of_row (xs := ([] : List Int)) HROW0.out rfl rfl).mono (show w.heap.size ≤ w.heap.size + 1 + 1 by omega) (Nat.le_refl _))
      by_cases h0 : (0 : Int) < (g.vals.length : Int)
      · go_wp2_with fail
        refine (HG.out _ HB0.out).mono ?_
        rintro e w2 ⟨rfl, hb2⟩
        have HO2 := Lib.hid ((hO.out.below hb2 (Nat.le_refl _)).mono (Nat.le_refl _) hb2.size)
        go_wp2_with fail
        go_ret
        exact ⟨_, rfl, HO2.out, below_trans HB0.out hb2⟩
      · go_wp2_with fail
        go_ret
        exact ⟨_, rfl, hO.out, HB0.out⟩
  | true =>
    rw [hk] at HG hR
    simp only [Bool.and_eq_true] at hk
    obtain ⟨hy, hgo, hao⟩ := hk
    have hn5 := (grOk_iff.1 hgo).n5
    have hr1 : R = pickL (ansTP g a y) g.vals.length := hR
    obtain ⟨P, hP⟩ : ∃ P, P = ansTP g a y := ⟨_, rfl⟩
    have hPi : ∀ i, P i = hasAns g a ((i : Nat) : Int) y := fun i => by rw [hP]; rfl
    rw [← hP] at hr1
    have HR := Lib.hid hr1
    have HP := Lib.hid hPi
    have HLF := Lib.hid (fun (x : Nat) (W : World) (hW : Below w.heap.size w W) (hx : x < g.vals.length) => l15From_any _ _ g a x W (HGV.out.keep hW) (HAV.out.keep hW) hgo hao hx)
    clear hy hgo hao hR hr1 hP hPi
    obtain ⟨gO, hgO⟩ : ∃ gO, gO = w.heap.size + 1 + 1 := ⟨_, rfl⟩
    rw [← hgO] at HROW0 hsW' ⊢
    have hgw : w.heap.size + 1 < gO := by omega
    clear hgO HSW
    go_loopw [7, 8] (fun oo ii wr => ∃ i : Nat, i ≤ g.vals.length ∧ ii = .int .i64 (i : Int) ∧ wr.ownsRow gO 3 1 oo (pickL P i).length ((pickL P i).flatMap cI) ∧ Below gO W0 wr) (fun _ ii _ => g.vals.length - (intOf ii).toNat)
    case atStart => exact ⟨0, Nat.zero_le _, rfl, HROW0.out, Below.refl _ _⟩
    case round =>
      clear HROW0
      obtain ⟨i, hi, rfl, hrow, hbel⟩ := hrel
      have x0 := (hbel.cell (p := ⟨w.heap.size, 0, none⟩) (by simp only; omega)).trans x0
      have x1 := (hbel.cell (p := ⟨w.heap.size, 1, none⟩) (by simp only; omega)).trans x1
      have y0 := (hbel.cell (p := ⟨w.heap.size + 1, 0, none⟩) (by simp only; omega)).trans y0
      have y1 := (hbel.cell (p := ⟨w.heap.size + 1, 1, none⟩) (by simp only; omega)).trans y1
      have y2 := (hbel.cell (p := ⟨w.heap.size + 1, 2, none⟩) (by simp only; omega)).trans y2
      have hsz := hbel.size
      have l0 := Nat.lt_of_lt_of_le l0 hsz
      have l00 := Nat.lt_of_lt_of_le l00 hsz
      have hbw := hb0.trans (hbel.mono (show w.heap.size ≤ gO by omega))
      have HBW := Lib.hid hbw
      have HROW := Lib.hid hrow
      have hfl := pick_len P i
      clear hrow hbw
      by_cases hlt : i < g.vals.length
      · have hii : (i : Int) < (g.vals.length : Int) := by omega
        have HPI := Lib.hid (HP.out i)
        have HY := Lib.hid (fun h => pick_yes (p := P) (k := i) h)
        have HNo := Lib.hid (fun h => pick_no (p := P) (k := i) h)
        generalize pickL P i = L at *
        go_wp2_with fail
        refine (HG.out _ HBW.out).mono ?_
        rintro e w2 ⟨rfl, hb2⟩
        have hbw2 := below_trans HBW.out hb2
        have x0 := kcell hb2 x0
        have x1 := kcell hb2 x1
        have y0 := kcell hb2 y0
        have y1 := kcell hb2 y1
        have y2 := kcell hb2 y2
        have HROW2 := Lib.hid (ownsRow_below HROW.out hb2 (Nat.le_refl _))
        have hs2 := hb2.size
        go_wp2_with fail
        refine (HLF.out i _ hbw2 hlt).mono ?_
        rintro e w3 ⟨v3, rfl, ho3, hb3⟩
        have hs3 := hb3.size
        have HROW3 := Lib.hid (ownsRow_below HROW2.out hb3 (Nat.le_refl _))
        have hsl := ((ho3.sl cI_len).all (Nat.le_refl _))
        have HF := Lib.hid (l11Find_any v3 _ y w3 hsl)
        have hh : hasAns g a (i : Int) y = decide (0 ≤ Lib.idxOf (ansL g a (i : Int)) y) := by
          rw [hasAns, Bool.eq_iff_iff, decide_eq_true_eq, Lib.idxOf_nonneg_iff]
        have HPJ := Lib.hid (HPI.out.trans hh)
        have hbel3 := hbel.trans ((below_trans hb2 hb3).mono (show gO ≤ wr.heap.size by omega))
        obtain ⟨A9, n9, c9, rfl⟩ := ho3.shape
        generalize Lib.idxOf (ansL g a (i : Int)) y = q at *
        clear ho3 hsl hh
        go_wp2_with fail
        refine HF.out.mono ?_
        rintro e w4 ⟨rfl, rfl⟩
        by_cases hq : 0 ≤ q
        · have k1 : decide (q ≥ 0) = true := by simpa using hq
          have HM := Lib.hid (HY.out (by rw [HPJ.out]; simpa using hq))
          go_wp2_with (at_builtin; (refine wpList_append1 cI elInt rfl _ _ rfl gO _ L (i : Int) _ 1 _ (by rfl) HROW3.out (by rfl) rfl rfl rfl (cI_one _) (by omega) (by omega) (by omega) ?_); intro v' w6 hrow' hb6 _ _)
          go_roundw
          case rel => exact ⟨i + 1, by omega, by go_num, by rw [HM.out]; exact hrow', hbel3.trans hb6⟩
          case measure => simp [intOf]; omega
        · have k1 : decide (q ≥ 0) = false := by simpa using hq
          have HM := Lib.hid (HNo.out (by rw [HPJ.out]; simpa using hq))
          go_wp2_with fail
          go_roundw
          case rel => exact ⟨i + 1, by omega, by go_num, by rw [HM.out]; exact HROW3.out, hbel3⟩
          case measure => simp [intOf]; omega
      · obtain rfl : i = g.vals.length := by omega
        have hown := Own.of_row (xs := pickL P g.vals.length) HROW.out rfl rfl
        rw [← HR.out] at hown
        obtain ⟨A9, n9, c9, rfl⟩ := hown.shape
        have HO := Lib.hid (hown.mono (show w.heap.size ≤ gO by omega) (Nat.le_refl _))
        clear hown
        go_wp2_with fail
        go_ret
        exact ⟨_, rfl, HO.out, HBW.out⟩
end Go.Proofs.Ytajjolkpgfegfaa

