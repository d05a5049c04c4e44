/- Parts of the proof, joined into one text: Pick. -/
import Derived.Test.YtajjolkpgfegfaaPartNEAEJIME
import Derived.Test.YtajjolkpgfegfaaPartCPDJAGBF
/- Lists of the numbers that a test picks: ReachableProduct, MeetingPoints, UsefulProduct on the reference's side and the program's. -/
namespace Go.Proofs.Ytajjolkpgfegfaa
set_option linter.unusedVariables false
set_option linter.unusedSimpArgs false
open Go.ChangeShapes Go.WideShapes Go.ChangeAt Go.RowKit
attribute [local go_sem] ext_cell ext_frozen ext_lt ext_lt1 ext_lt2 ext_lt3 ltn2 ltn3 ltn13 lts1 lts2 lts3

def pickL (p : Nat → Bool) (k : Nat) : List Int := ((List.range k).filter p).map fun (i : Nat) => (i : Int)
theorem pick_yes {p : Nat → Bool} {k : Nat} (h : p k = true) : pickL p (k + 1) = pickL p k ++ [(k : Int)] := by
  simp [pickL, List.range_succ, List.filter_append, h]
theorem pick_no {p : Nat → Bool} {k : Nat} (h : p k = false) : pickL p (k + 1) = pickL p k := by
  simp [pickL, List.range_succ, List.filter_append, h]
theorem pick_len (p : Nat → Bool) (k : Nat) : (pickL p k).length ≤ k := by
  unfold pickL
  rw [List.length_map]
  exact Nat.le_trans (List.length_filter_le _ _) (by simp)

def reachP (g : Gr) (a : Au) (x : Int) (i : Nat) : Bool := decide (0 ≤ (distFrom g a x).getD i 0)
def reachL (g : Gr) (a : Au) (x : Int) : List Int := pickL (reachP g a x) (distFrom g a x).length
theorem reachL_len (g : Gr) (a : Au) (x : Int) : (reachL g a x).length ≤ 60 := Nat.le_trans (pick_len _ _) (distFrom_le g a x)

set_option maxHeartbeats 4000000 in
set_option maxRecDepth 100000 in
theorem implReachableProduct (vg va : Value) (g : Gr) (a : Au) (x : Int) (w : World) (hgv : GrV 0 w.heap.size w vg g) (hav : AuV 0 w.heap.size w va a) :
    Calls Try.prog 33 #[vg, va, .int .i64 x] w fun e w' => ∃ v', e = .returned v' ∧ Own w.heap.size w'.heap.size w' 3 cI 1 v' (reachL g a x) ∧ Below w.heap.size w w' := by
  obtain ⟨R, hR⟩ : ∃ R, R = reachL g a x := ⟨_, rfl⟩
  rw [← hR]
  have HRR := Lib.hid hR
  clear hR
  have hgv0 := hgv
  have hav0 := hav
  obtain ⟨A1, c1, A2, c2, rfl, hl1, hm1, hl2, hm2, hC1, -⟩ := hgv.form
  obtain ⟨ac, nx, rfl, hac, hnx⟩ := hav
  obtain ⟨A3, c3, rfl, hl3, hm3, -⟩ := SlE.form hac
  obtain ⟨A4, n4, c4, rfl⟩ := hnx.shape
  have hb0 : Below w.heap.size w ((w.alloc (.cells #[.slice A1 g.vals.length c1, .slice A2 g.edges.length c2] 35)).alloc (.cells #[.int .i64 a.start, .slice A3 a.accept.length c3, .slice A4 n4 c4] 37)) := ((Below.refl _ _).alloc (Nat.le_refl _) _).alloc (by simp) _
  have HGV := Lib.hid hgv0
  have HAV := Lib.hid hav0
  have HC1 := Lib.hid hC1
  clear hgv hac hnx hgv0 hav0 hC1
  go_enter Try.func33, Try.ntmps33
  go_wp2_with fail
  obtain ⟨W0, hW0⟩ : ∃ W0, W0 = ((w.alloc (.cells #[.slice A1 g.vals.length c1, .slice A2 g.edges.length c2] 35)).alloc (.cells #[.int .i64 a.start, .slice A3 a.accept.length c3, .slice A4 n4 c4] 37)).alloc (.cells #[] 3) := ⟨_, rfl⟩
  have hb0 : Below w.heap.size w W0 := by rw [hW0]; exact hb0.alloc hb0.size _
  rw [← hW0]
  have bx : Blk W0 w.heap.size 35 #[.slice A1 g.vals.length c1, .slice A2 g.edges.length c2] := by rw [hW0]; exact ((Blk.new w _ _ w.heap.size rfl).alloc _).alloc _
  have by_ : Blk W0 (w.heap.size + 1) 37 #[.int .i64 a.start, .slice A3 a.accept.length c3, .slice A4 n4 c4] := by rw [hW0]; exact (Blk.new (w.alloc _) _ _ (w.heap.size + 1) (by simp)).alloc _
  have hrow0 : W0.ownsRow (w.heap.size + 1 + 1) 3 1 (.slice (some ⟨w.heap.size + 1 + 1, 0, none⟩) 0 0) ([] : List Int).length (([] : List Int).flatMap cI) := by
    rw [hW0]
    have h := World.ownsRow_lit (base := w.heap.size + 1 + 1) (e := 3) (size := 1) ((w.alloc (.cells #[.slice A1 g.vals.length c1, .slice A2 g.edges.length c2] 35)).alloc (.cells #[.int .i64 a.start, .slice A3 a.accept.length c3, .slice A4 n4 c4] 37)) #[] 0 (by simp) (by decide) rfl
    simpa using h
  have x0 : W0.cell? ⟨w.heap.size, 0, none⟩ = some (.slice A1 g.vals.length c1) := bx.cell 0
  have x1 : W0.cell? ⟨w.heap.size, 1, none⟩ = some (.slice A2 g.edges.length c2) := bx.cell 1
  have y0 : W0.cell? ⟨w.heap.size + 1, 0, none⟩ = some (.int .i64 a.start) := by_.cell 0
  have y1 : W0.cell? ⟨w.heap.size + 1, 1, none⟩ = some (.slice A3 a.accept.length c3) := by_.cell 1
  have y2 : W0.cell? ⟨w.heap.size + 1, 2, none⟩ = some (.slice A4 n4 c4) := by_.cell 2
  have l0 := by_.lt
  have l00 := bx.lt
  have HROW0 := Lib.hid hrow0
  have hsW : W0.heap.size = w.heap.size + 1 + 1 + 1 := by rw [hW0]; simp
  have hsW' : w.heap.size + 1 + 1 < W0.heap.size := by omega
  have HSW := Lib.hid hsW
  clear hW0 bx by_ hrow0 hsW
  refine (implDistancesFrom _ _ g a x W0 (HGV.out.keep hb0) (HAV.out.keep hb0)).mono ?_
  rintro e w1 ⟨v1, rfl, ho1, hb1⟩
  have hb2 := below_trans hb0 hb1
  have hs1 := hb1.size
  have hs0 := hb0.size
  have HROW1 := Lib.hid (ownsRow_below HROW0.out hb1 (Nat.le_refl _))
  have HC6 := Lib.hid (ho1.sl cI_len)
  obtain ⟨A6, c6, rfl, hl6, hm6, -⟩ := ho1.form cI_len
  clear ho1 hb1 hb0 HROW0 x0 x1 y0 y1 y2
  have hN60 := distFrom_le g a x
  have hR := HRR.out
  clear HRR
  obtain ⟨P, hP⟩ : ∃ P, P = reachP g a x := ⟨_, rfl⟩
  have hPi : ∀ i, P i = decide (0 ≤ (distFrom g a x).getD i 0) := fun i => by rw [hP]; rfl
  rw [reachL, ← hP] at hR
  generalize distFrom g a x = D at *
  obtain ⟨N, hN⟩ : ∃ N, N = D.length := ⟨_, rfl⟩
  rw [← hN] at hR hl6 hN60 ⊢
  have HP := Lib.hid hPi
  have HR := Lib.hid hR
  have HN := Lib.hid hN
  clear hR hP hPi hN
  go_wp2_with fail
  obtain ⟨gO, hgO⟩ : ∃ gO, gO = w.heap.size + 1 + 1 := ⟨_, rfl⟩
  rw [← hgO] at HROW1 hsW' ⊢
  have hgw : w.heap.size + 1 < gO := by omega
  clear hgO HSW
  go_loopw [7, 16] (fun oo ii wr => ∃ i : Nat, i ≤ N ∧ ii = .int .i64 (i : Int) ∧ wr.ownsRow gO 3 1 oo (pickL P i).length ((pickL P i).flatMap cI) ∧ Only gO (gO + 1) w1 wr ∧ (∀ b, oo.ownBlock = some b → b = gO ∨ w1.heap.size ≤ b)) (fun _ ii _ => N - (intOf ii).toNat)
  case atStart => exact ⟨0, Nat.zero_le _, rfl, HROW1.out, Only.refl _ _ _, fun b hb => by cases hb; exact .inl rfl⟩
  case round =>
    clear HROW1
    obtain ⟨i, hi, rfl, hrow, hon, hob⟩ := hrel
    have hsz := hon.size
    have hbw := hb2.trans (hon.below (B := w.heap.size) (by omega) hb2.size)
    have HBW := Lib.hid hbw
    have HROW := Lib.hid hrow
    have HOB := Lib.hid hob
    have HON := Lib.hid hon
    have hfl := pick_len P i
    clear hrow hob hbw hon
    by_cases hlt : i < N
    · have hdi := getD_of (D := D) (k := i) (by have := HN.out; omega)
      obtain ⟨b6, o6, rfl, hb60, hb6, d6⟩ := HC6.out.intI hdi
      have d6 := ocell HON.out d6 hb6 (.inr (by omega))
      have hii : (i : Int) < (N : Int) := by omega
      have HPI := Lib.hid (HP.out i)
      have HY := Lib.hid (fun h => pick_yes (p := P) (k := i) h)
      have HNo := Lib.hid (fun h => pick_no (p := P) (k := i) h)
      clear hdi
      generalize D.getD i 0 = d at *
      generalize pickL P i = L at *
      by_cases hd : 0 ≤ d
      · have hd0 : decide (d ≥ 0) = true := by simpa using hd
        have HM := Lib.hid (HY.out (by rw [HPI.out]; simpa using hd))
        go_wp2_with (at_builtin; (refine wpList_append1 cI elInt rfl _ _ rfl gO _ L (i : Int) _ 1 _ (by rfl) HROW.out (by rfl) rfl rfl rfl (cI_one _) (by omega) (by omega) (by omega) ?_); intro v' w4 hrow' hb4 hat4 hgr4)
        go_roundw
        case rel =>
          refine ⟨i + 1, by omega, by go_num, by rw [HM.out]; exact hrow', (HON.out.alloc _).grown hgr4 (fun b hb => by have := HOB.out b hb; omega), fun b hb => ?_⟩
          rcases hat4 with h1 | ⟨g1, h1, h2⟩
          · exact HOB.out b (by rw [← h1]; exact hb)
          · rw [h1] at hb
            injection hb with hb
            exact .inr (by omega)
        case measure => simp [intOf]; omega
      · have hd0 : decide (d ≥ 0) = false := by simpa using hd
        have HM := Lib.hid (HNo.out (by rw [HPI.out]; simpa using hd))
        go_wp2_with fail
        go_roundw
        case rel => exact ⟨i + 1, by omega, by go_num, by rw [HM.out]; exact HROW.out, HON.out, HOB.out⟩
        case measure => simp [intOf]; omega
    · obtain rfl : i = N := by omega
      have hown := Own.of_row (xs := pickL P i) HROW.out rfl rfl
      rw [← HR.out] at hown
      obtain ⟨A9, n9, c9, rfl⟩ := hown.shape
      have HO := Lib.hid (hown.mono (show w.heap.size ≤ gO by omega) (Nat.le_refl _))
      clear hown
      go_wp2_with fail
      go_ret
      exact ⟨_, rfl, HO.out, HBW.out⟩
set_option maxHeartbeats 4000000 in
set_option maxRecDepth 100000 in
theorem specReachableProduct (vg va : Value) (g : Gr) (a : Au) (x : Int) (w : World) (hgv : GrV 0 w.heap.size w vg g) (hav : AuV 0 w.heap.size w va a) :
    Calls Try.prog 32 #[vg, va, .int .i64 x] w fun e w' => ∃ v', e = .returned v' ∧ Own w.heap.size w'.heap.size w' 3 cI 1 v' (reachL g a x) ∧ Below w.heap.size w w' := by
  obtain ⟨R, hR⟩ : ∃ R, R = reachL g a x := ⟨_, rfl⟩
  rw [← hR]
  have HRR := Lib.hid hR
  clear hR
  have hgv0 := hgv
  have hav0 := hav
  obtain ⟨A1, c1, A2, c2, rfl, hl1, hm1, hl2, hm2, hC1, -⟩ := hgv.form
  obtain ⟨ac, nx, rfl, hac, hnx⟩ := hav
  obtain ⟨A3, c3, rfl, hl3, hm3, -⟩ := SlE.form hac
  obtain ⟨A4, n4, c4, rfl⟩ := hnx.shape
  have hb0 : Below w.heap.size w ((w.alloc (.cells #[.slice A1 g.vals.length c1, .slice A2 g.edges.length c2] 35)).alloc (.cells #[.int .i64 a.start, .slice A3 a.accept.length c3, .slice A4 n4 c4] 37)) := ((Below.refl _ _).alloc (Nat.le_refl _) _).alloc (by simp) _
  have HGV := Lib.hid hgv0
  have HAV := Lib.hid hav0
  have HC1 := Lib.hid hC1
  clear hgv hac hnx hgv0 hav0 hC1
  go_enter Try.func32, Try.ntmps32
  go_wp2_with fail
  obtain ⟨W0, hW0⟩ : ∃ W0, W0 = ((w.alloc (.cells #[.slice A1 g.vals.length c1, .slice A2 g.edges.length c2] 35)).alloc (.cells #[.int .i64 a.start, .slice A3 a.accept.length c3, .slice A4 n4 c4] 37)).alloc (.cells #[] 3) := ⟨_, rfl⟩
  have hb0 : Below w.heap.size w W0 := by rw [hW0]; exact hb0.alloc hb0.size _
  rw [← hW0]
  have bx : Blk W0 w.heap.size 35 #[.slice A1 g.vals.length c1, .slice A2 g.edges.length c2] := by rw [hW0]; exact ((Blk.new w _ _ w.heap.size rfl).alloc _).alloc _
  have by_ : Blk W0 (w.heap.size + 1) 37 #[.int .i64 a.start, .slice A3 a.accept.length c3, .slice A4 n4 c4] := by rw [hW0]; exact (Blk.new (w.alloc _) _ _ (w.heap.size + 1) (by simp)).alloc _
  have hrow0 : W0.ownsRow (w.heap.size + 1 + 1) 3 1 (.slice (some ⟨w.heap.size + 1 + 1, 0, none⟩) 0 0) ([] : List Int).length (([] : List Int).flatMap cI) := by
    rw [hW0]
    have h := World.ownsRow_lit (base := w.heap.size + 1 + 1) (e := 3) (size := 1) ((w.alloc (.cells #[.slice A1 g.vals.length c1, .slice A2 g.edges.length c2] 35)).alloc (.cells #[.int .i64 a.start, .slice A3 a.accept.length c3, .slice A4 n4 c4] 37)) #[] 0 (by simp) (by decide) rfl
    simpa using h
  have x0 : W0.cell? ⟨w.heap.size, 0, none⟩ = some (.slice A1 g.vals.length c1) := bx.cell 0
  have x1 : W0.cell? ⟨w.heap.size, 1, none⟩ = some (.slice A2 g.edges.length c2) := bx.cell 1
  have y0 : W0.cell? ⟨w.heap.size + 1, 0, none⟩ = some (.int .i64 a.start) := by_.cell 0
  have y1 : W0.cell? ⟨w.heap.size + 1, 1, none⟩ = some (.slice A3 a.accept.length c3) := by_.cell 1
  have y2 : W0.cell? ⟨w.heap.size + 1, 2, none⟩ = some (.slice A4 n4 c4) := by_.cell 2
  have l0 := by_.lt
  have l00 := bx.lt
  have HROW0 := Lib.hid hrow0
  have hsW : W0.heap.size = w.heap.size + 1 + 1 + 1 := by rw [hW0]; simp
  have hsW' : w.heap.size + 1 + 1 < W0.heap.size := by omega
  have HSW := Lib.hid hsW
  clear hW0 bx by_ hrow0 hsW
  have hgx := l14Good_any _ _ g a x 0 W0 (HGV.out.keep hb0) (HAV.out.keep hb0)
  rw [goodB1] at hgx
  have HGX := Lib.hid hgx
  clear hgx
  have hR := HRR.out
  clear HRR
  cases hk : (wi x 0 ((g.vals.length : Int) - 1) && (grOk g && auOk a)) with
  | false =>
    rw [hk] at HGX
    have hr0 : R = [] := by rw [hR, reachL, distFrom, hk]; rfl
    have HR0 := Lib.hid hr0
    clear hk hr0 hR
    refine HGX.out.mono ?_
    rintro e w1 ⟨rfl, hb1⟩
    have hb2 := below_trans hb0 hb1
    have HROW1 := Lib.hid (ownsRow_below HROW0.out hb1 (Nat.le_refl _))
    go_wp2_with fail
    go_ret
    exact ⟨_, rfl, by rw [HR0.out]; exact (Own.of_row (xs := ([] : List Int)) HROW1.out rfl rfl).mono (by omega) (Nat.le_refl _), hb2⟩
  | true =>
    rw [hk] at HGX
    simp only [Bool.and_eq_true, wi_iff] at hk
    obtain ⟨⟨hx0, hx1⟩, hgo, ha⟩ := hk
    obtain ⟨x, rfl⟩ := Int.eq_ofNat_of_zero_le hx0
    have hxl : x < g.vals.length := by omega
    have HLF := Lib.hid (fun (W : World) (hW : Below w.heap.size w W) => l14Ranks_any _ _ g a x W (HGV.out.keep hW) (HAV.out.keep hW) hgo ha hxl)
    clear hx0 hx1 hgo ha
    have hN60 := distFrom_le g a (x : Int)
    obtain ⟨P, hP⟩ : ∃ P, P = reachP g a (x : Int) := ⟨_, rfl⟩
    have hPi : ∀ i, P i = decide (0 ≤ (distFrom g a (x : Int)).getD i 0) := fun i => by rw [hP]; rfl
    rw [reachL, ← hP] at hR
    generalize distFrom g a (x : Int) = D at *
    have HP := Lib.hid hPi
    have HR := Lib.hid hR
    clear hR hP hPi
    refine HGX.out.mono ?_
    rintro e w1 ⟨rfl, hb1⟩
    have hb2 := below_trans hb0 hb1
    have x0 := kcell hb1 x0
    have x1 := kcell hb1 x1
    have y0 := kcell hb1 y0
    have y1 := kcell hb1 y1
    have y2 := kcell hb1 y2
    have HROW1 := Lib.hid (ownsRow_below HROW0.out hb1 (Nat.le_refl _))
    have hs1 := hb1.size
    clear hb1 hb0 HROW0
    go_wp2_with fail
    refine (HLF.out w1 hb2).mono ?_
    rintro e w3 ⟨v3, rfl, ho3, hb3⟩
    have hb2 := below_trans hb2 hb3
    have hs3 := hb3.size
    have HROW1 := Lib.hid (ownsRow_below HROW1.out hb3 (Nat.le_refl _))
    have HC6 := Lib.hid (ho3.sl cI_len)
    obtain ⟨A6, c6, rfl, hl6, hm6, -⟩ := ho3.form cI_len
    obtain ⟨N, hN⟩ : ∃ N, N = D.length := ⟨_, rfl⟩
    rw [← hN] at HR hl6 hN60 ⊢
    have HN := Lib.hid hN
    clear ho3 hN hb3 x0 x1 y0 y1 y2 HLF HGX
    have hs0 := hb2.size
    go_wp2_with fail
    obtain ⟨gO, hgO⟩ : ∃ gO, gO = w.heap.size + 1 + 1 := ⟨_, rfl⟩
    rw [← hgO] at HROW1 hsW' ⊢
    have hgw : w.heap.size + 1 < gO := by omega
    clear hgO HSW
    go_loopw [7, 9] (fun oo ii wr => ∃ i : Nat, i ≤ N ∧ ii = .int .i64 (i : Int) ∧ wr.ownsRow gO 3 1 oo (pickL P i).length ((pickL P i).flatMap cI) ∧ Only gO (gO + 1) w3 wr ∧ (∀ b, oo.ownBlock = some b → b = gO ∨ w3.heap.size ≤ b)) (fun _ ii _ => N - (intOf ii).toNat)
    case atStart => exact ⟨0, Nat.zero_le _, rfl, HROW1.out, Only.refl _ _ _, fun b hb => by cases hb; exact .inl rfl⟩
    case round =>
      clear HROW1
      obtain ⟨i, hi, rfl, hrow, hon, hob⟩ := hrel
      have hsz := hon.size
      have hbw := hb2.trans (hon.below (B := w.heap.size) (by omega) hb2.size)
      have HBW := Lib.hid hbw
      have HROW := Lib.hid hrow
      have HOB := Lib.hid hob
      have HON := Lib.hid hon
      have hfl := pick_len P i
      clear hrow hob hbw hon
      by_cases hlt : i < N
      · have hdi := getD_of (D := D) (k := i) (by have := HN.out; omega)
        obtain ⟨b6, o6, rfl, hb60, hb6, d6⟩ := HC6.out.intI hdi
        have d6 := ocell HON.out d6 hb6 (.inr (by omega))
        have hii : (i : Int) < (N : Int) := by omega
        have HPI := Lib.hid (HP.out i)
        have HY := Lib.hid (fun h => pick_yes (p := P) (k := i) h)
        have HNo := Lib.hid (fun h => pick_no (p := P) (k := i) h)
        clear hdi
        generalize D.getD i 0 = d at *
        generalize pickL P i = L at *
        by_cases hd : 0 ≤ d
        · have hd0 : decide (d ≥ 0) = true := by simpa using hd
          have HM := Lib.hid (HY.out (by rw [HPI.out]; simpa using hd))
          go_wp2_with (at_builtin; (refine wpList_append1 cI elInt rfl _ _ rfl gO _ L (i : Int) _ 1 _ (by rfl) HROW.out (by rfl) rfl rfl rfl (cI_one _) (by omega) (by omega) (by omega) ?_); intro v' w4 hrow' hb4 hat4 hgr4)
          go_roundw
          case rel =>
            refine ⟨i + 1, by omega, by go_num, by rw [HM.out]; exact hrow', (HON.out.alloc _).grown hgr4 (fun b hb => by have := HOB.out b hb; omega), fun b hb => ?_⟩
            rcases hat4 with h1 | ⟨g1, h1, h2⟩
            · exact HOB.out b (by rw [← h1]; exact hb)
            · rw [h1] at hb
              injection hb with hb
              exact .inr (by omega)
          case measure => simp [intOf]; omega
        · have hd0 : decide (d ≥ 0) = false := by simpa using hd
          have HM := Lib.hid (HNo.out (by rw [HPI.out]; simpa using hd))
          go_wp2_with fail
          go_roundw
          case rel => exact ⟨i + 1, by omega, by go_num, by rw [HM.out]; exact HROW.out, HON.out, HOB.out⟩
          case measure => simp [intOf]; omega
      · obtain rfl : i = N := by omega
        have hown := Own.of_row (xs := pickL P i) HROW.out rfl rfl
        rw [← HR.out] at hown
        obtain ⟨A9, n9, c9, rfl⟩ := hown.shape
        have HO := Lib.hid (hown.mono (show w.heap.size ≤ gO by omega) (Nat.le_refl _))
        clear hown
        go_wp2_with fail
        go_ret
        exact ⟨_, rfl, HO.out, HBW.out⟩
end Go.Proofs.Ytajjolkpgfegfaa

