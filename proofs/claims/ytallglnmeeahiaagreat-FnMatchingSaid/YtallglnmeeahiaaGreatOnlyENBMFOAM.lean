/- Parts of the proof, joined into one text: RunS, HasI, AccI, AlongI, Stat, Rec, Seat. -/
import Derived.Test.YtallglnmeeahiaaGreatOnlyGADEMEHM
import Derived.Test.YtallglnmeeahiaaGreatOnlyDEGJKGJL
import Derived.Test.YtallglnmeeahiaaGreatOnlyBAKGCBEJ
import Derived.Test.YtallglnmeeahiaaGreatOnlyKABCAAHN
import Derived.Test.YtallglnmeeahiaaGreatOnlyCFLHLFPM
import Derived.Test.YtallglnmeeahiaaGreatOnlyEHEILOHB
import Derived.JoinedOf
import Derived.Test.YtallglnmeeahiaaGreatRows
namespace Go.Proofs.YtallglnmeeahiaaGreat
set_option linter.unusedVariables false
set_option linter.unusedSimpArgs false
open Go.ChangeShapes Go.WideShapes Go.ChangeAt Go.RowKit
attribute [local go_sem] ext_cell ext_frozen ext_lt ext_lt1 ext_lt2 ext_lt3 ltn2 ltn3 ltn13 lts1 lts2 lts3
set_option maxHeartbeats 4000000 in
theorem l11Run_any (va vs : Value) (a : Au) (s : Int) (xs : List Int) (w : World) (hav : AuV 0 w.heap.size w va a) (hv : SlE w cI 1 vs xs) (ha : auOk a = true) (hs : -1 ≤ s ∧ s < (a.accept.length : Int)) :
    Calls Tryz.prog 77 #[va, .int .i64 s, vs] w fun e w' => e = .returned (.int .i64 (runL a s xs)) ∧ Below w.heap.size w w' := by
  obtain ⟨A3, c3, A4, c4, rfl, hl3, hm3, hl4, hm4, hAC⟩ := hav.form ha
  have hb0 := (Below.refl w.heap.size w).alloc (Nat.le_refl _) (.cells #[.int .i64 a.start, .slice A3 a.accept.length c3, .slice A4 a.accept.length c4] 31)
  have bk := Blk.new w 31 #[.int .i64 a.start, .slice A3 a.accept.length c3, .slice A4 a.accept.length c4] _ rfl
  have HAC := Lib.hid (hAC.keep hb0)
  have HXS := Lib.hid (SlE.keep hv hb0)
  obtain ⟨A5, c5, rfl, hl5, hm5, -⟩ := hv
  unfold maxLen at hm5
  have HAO := Lib.hid ha
  obtain ⟨R, hR⟩ : ∃ R, R = runL a s xs := ⟨_, rfl⟩
  rw [← hR]
  have HR := Lib.hid hR
  have hn12 := (auOk_iff.1 ha).1.2
  clear hav hAC hR ha
  go_enter Tryz.func77, Tryz.ntmps77
  go_wp2_with fail
  generalize hW : w.alloc (.cells #[.int .i64 a.start, .slice A3 a.accept.length c3, .slice A4 a.accept.length c4] 31) = W at *
  have y2 : W.cell? ⟨w.heap.size, 2, none⟩ = some (.slice A4 a.accept.length c4) := bk.cell 2
  clear bk hW
  obtain ⟨N, hN⟩ : ∃ N, N = xs.length := ⟨_, rfl⟩
  rw [← hN] at hl5 HXS ⊢
  have HN := Lib.hid hN
  clear hN
  go_loopw [1, 7] (fun ss ii wr => ∃ (i : Nat) (q : Int), i ≤ N ∧ ii = .int .i64 (i : Int) ∧ ss = .int .i64 q ∧ (-1 ≤ q ∧ q < (a.accept.length : Int)) ∧ R = runL a q (xs.drop i) ∧ Below W.heap.size W wr) (fun _ ii _ => N - (intOf ii).toNat)
  case atStart => exact ⟨0, s, Nat.zero_le _, rfl, rfl, hs, HR.out, Below.refl _ _⟩
  case round =>
    obtain ⟨i, q, hi, rfl, rfl, ⟨hq0, hq1⟩, hrq, hw⟩ := hrel
    have hbf := below_trans hb0 hw
    by_cases hlt : i < N
    · have hlt2 : i < xs.length := by rw [← HN.out]; exact hlt
      obtain ⟨x, hx⟩ : ∃ x, xs[i]? = some x := ⟨_, List.getElem?_eq_getElem hlt2⟩
      have hdr : xs.drop i = x :: xs.drop (i + 1) := by
        rw [List.drop_eq_getElem_cons hlt2]
        rw [List.getElem?_eq_getElem hlt2] at hx
        injection hx with hx
        rw [hx]
      have HRQ := Lib.hid hrq
      have hii : (i : Int) < (N : Int) := by omega
      by_cases hneg : q < 0
      · have hfin : R = q := by rw [HRQ.out, runL_neg hneg]
        have HF := Lib.hid hfin
        have hd0 : decide (q ≥ 0) = false := by simp; omega
        clear hfin hrq hdr hx
        go_wp2_with fail
        go_ret
        exact ⟨by rw [HF.out]; rfl, hbf⟩
      · obtain ⟨q, rfl⟩ := Int.eq_ofNat_of_zero_le (show 0 ≤ q by omega)
        have hd0 : decide ((q : Int) ≥ 0) = true := by simp
        obtain ⟨b5, o5, rfl, -, hb5, x5⟩ := SlI.intI (SlE.keep HXS.out hw) hx
        have HDR := Lib.hid hdr
        clear hrq hdr hx
        go_wp2_with fail
        refine (l2Letter_any x _).mono ?_
        rintro e w2 ⟨rfl, hw2⟩
        rw [hw2]
        clear hw2
        cases hx8 : wi x 0 8 with
        | false =>
          have HF := Lib.hid (show R = -1 by rw [HRQ.out, HDR.out, runL_bad (by omega) hx8])
          clear hx8
          go_wp2_with fail
          go_ret
          exact ⟨by rw [HF.out]; rfl, hbf⟩
        | true =>
          have HF := Lib.hid (show R = runL a (mv a q x.toNat) (xs.drop (i + 1)) by rw [HRQ.out, HDR.out, runL_good (by omega) hx8, Int.toNat_natCast])
          rw [wi_iff] at hx8
          obtain ⟨x, rfl⟩ := Int.eq_ofNat_of_zero_le hx8.1
          have hqn : q < a.accept.length := by omega
          obtain ⟨b8, o8, b9, o9, c9, rfl, hb8, hrw, -, -, hb9, hmvs⟩ := HAC.out.row q hqn
          have hrw := kcell hw hrw
          have r1 := kcell hw (hmvs x (by omega))
          have y2 := kcell hw y2
          have hqi : (q : Int) < (a.accept.length : Int) := by omega
          have hx9 : (x : Int) < 9 := by omega
          have hmv := mv_lt HAO.out q x
          rw [Int.toNat_natCast] at HF
          clear hmvs hx8
          go_wp2_with fail
          go_region
          go_wp2_with fail
          go_roundw
          case rel => exact ⟨i + 1, _, by omega, by go_num, rfl, ⟨by omega, by omega⟩, HF.out, hw.drew⟩
          case measure => simp [intOf]; omega
    · obtain rfl : i = N := by omega
      have hfin : R = q := by rw [hrq, HN.out, List.drop_length]; rfl
      have HF := Lib.hid hfin
      clear hfin hrq
      go_wp2_with fail
      go_ret
      exact ⟨by rw [HF.out]; rfl, hbf⟩
set_option maxHeartbeats 2000000 in
theorem runWord_any (va vs : Value) (a : Au) (xs : List Int) (w : World) (hav : AuV 0 w.heap.size w va a) (hv : SlE w cI 1 vs xs) :
    Calls Tryz.prog 54 #[va, vs] w fun e w' => e = .returned (.int .i64 (runW a xs)) ∧ Below w.heap.size w w' := by
  have HAV := Lib.hid hav
  have HV := Lib.hid hv
  obtain ⟨A3, n3, c3, A4, n4, c4, rfl⟩ := hav.shape
  obtain ⟨A5, c5, rfl, hl5, hm5, -⟩ := hv
  clear hav
  have hb0 := (Below.refl w.heap.size w).alloc (Nat.le_refl _) (.cells #[.int .i64 a.start, .slice A3 n3 c3, .slice A4 n4 c4] 31)
  have bk := Blk.new w 31 #[.int .i64 a.start, .slice A3 n3 c3, .slice A4 n4 c4] _ rfl
  obtain ⟨R, hR⟩ : ∃ R, R = runW a xs := ⟨_, rfl⟩
  rw [← hR]
  have HR := Lib.hid hR
  clear hR
  go_enter Tryz.func54, Tryz.ntmps54
  go_wp2_with fail
  generalize hW : w.alloc (.cells #[.int .i64 a.start, .slice A3 n3 c3, .slice A4 n4 c4] 31) = W at *
  have y0 : W.cell? ⟨w.heap.size, 0, none⟩ = some (.int .i64 a.start) := bk.cell 0
  have y1 : W.cell? ⟨w.heap.size, 1, none⟩ = some (.slice A3 n3 c3) := bk.cell 1
  have y2 : W.cell? ⟨w.heap.size, 2, none⟩ = some (.slice A4 n4 c4) := bk.cell 2
  clear bk hW
  refine (specValidAutomaton _ a _ (HAV.out.keep hb0)).mono ?_
  rintro e w1 ⟨rfl, hb1⟩
  have hb2 := below_trans hb0 hb1
  have y0 := kcell hb1 y0
  have y1 := kcell hb1 y1
  have y2 := kcell hb1 y2
  clear hb0 hb1
  cases ha : auOk a with
  | false =>
    have HF := Lib.hid (show R = -1 by rw [HR.out, runW, ha]; rfl)
    clear ha
    go_wp2_with fail
    go_ret
    exact ⟨by rw [HF.out]; rfl, hb2⟩
  | true =>
    have HF := Lib.hid (show R = runL a a.start xs by rw [HR.out, runW, if_pos ha])
    have HAO := Lib.hid ha
    have hst := (auOk_iff.1 ha).2.1
    clear ha
    go_wp2_with fail
    refine (l11Run_any _ _ a a.start xs _ (HAV.out.keep hb2) (SlE.keep HV.out hb2) HAO.out ⟨by omega, by omega⟩).mono ?_
    rintro e w3 ⟨rfl, hb3⟩
    rw [← HF.out]
    go_wp2_with fail
    go_ret
    exact ⟨rfl, below_trans hb2 hb3⟩
theorem runW_range (a : Au) (xs : List Int) : -1 ≤ runW a xs ∧ (0 ≤ runW a xs → auOk a = true ∧ runW a xs < (a.accept.length : Int)) := by
  rw [runW]
  split
  · rename_i h
    have hst := (auOk_iff.1 h).2.1
    have := runL_range h xs a.start ⟨by omega, by omega⟩
    exact ⟨this.1, fun _ => ⟨h, this.2⟩⟩
  · exact ⟨by decide, fun h => absurd h (by decide)⟩
set_option maxHeartbeats 2000000 in
theorem specAcceptsWord (va vs : Value) (a : Au) (xs : List Int) (w : World) (hav : AuV 0 w.heap.size w va a) (hv : SlE w cI 1 vs xs) :
    Calls Tryz.prog 28 #[va, vs] w fun e w' => e = .returned (.bool (accW a xs)) ∧ Below w.heap.size w w' := by
  have HAV := Lib.hid hav
  have HV := Lib.hid hv
  obtain ⟨A3, n3, c3, A4, n4, c4, rfl⟩ := hav.shape
  obtain ⟨A5, c5, rfl, hl5, hm5, -⟩ := hv
  clear hav
  have hb0 := (Below.refl w.heap.size w).alloc (Nat.le_refl _) (.cells #[.int .i64 a.start, .slice A3 n3 c3, .slice A4 n4 c4] 31)
  have bk := Blk.new w 31 #[.int .i64 a.start, .slice A3 n3 c3, .slice A4 n4 c4] _ rfl
  obtain ⟨R, hR⟩ : ∃ R, R = accW a xs := ⟨_, rfl⟩
  rw [← hR]
  have HR := Lib.hid (hR.trans (show accW a xs = (decide (0 ≤ runW a xs) && a.accept.getD (runW a xs).toNat false) from rfl))
  clear hR
  go_enter Tryz.func28, Tryz.ntmps28
  go_wp2_with fail
  generalize hW : w.alloc (.cells #[.int .i64 a.start, .slice A3 n3 c3, .slice A4 n4 c4] 31) = W at *
  have y0 : W.cell? ⟨w.heap.size, 0, none⟩ = some (.int .i64 a.start) := bk.cell 0
  have y1 : W.cell? ⟨w.heap.size, 1, none⟩ = some (.slice A3 n3 c3) := bk.cell 1
  have y2 : W.cell? ⟨w.heap.size, 2, none⟩ = some (.slice A4 n4 c4) := bk.cell 2
  clear bk hW
  refine (runWord_any _ _ a xs _ (HAV.out.keep hb0) (SlE.keep HV.out hb0)).mono ?_
  rintro e w1 ⟨rfl, hb1⟩
  have hb2 := below_trans hb0 hb1
  have y0 := kcell hb1 y0
  have y1 := kcell hb1 y1
  have y2 := kcell hb1 y2
  have HAV2 := Lib.hid (HAV.out.keep hb2)
  have hrr := runW_range a xs
  generalize runW a xs = q at *
  clear hb0 hb1 HAV
  by_cases hq : 0 ≤ q
  · obtain ⟨hao, hq1⟩ := hrr.2 hq
    obtain ⟨q, rfl⟩ := Int.eq_ofNat_of_zero_le hq
    obtain ⟨A3', c3', A4', c4', hv, -, -, -, -, hAC⟩ := HAV2.out.form hao
    simp only [Value.agg.injEq, Array.mk.injEq, List.cons.injEq, Value.slice.injEq, and_true, true_and] at hv
    obtain ⟨⟨rfl, rfl, rfl⟩, rfl, rfl, rfl⟩ := hv
    have hql : q < a.accept.length := by omega
    obtain ⟨b1, o1, rfl, hb1, e1⟩ := hAC.acc.bool (List.getElem?_eq_getElem hql)
    have HF := Lib.hid (show R = a.accept[q] by rw [HR.out, Int.toNat_natCast, List.getD_eq_getElem?_getD, List.getElem?_eq_getElem hql]; simp)
    generalize a.accept[q] = z at *
    clear hAC hrr hao hql
    go_wp2_with fail
    go_ret
    exact ⟨by rw [HF.out]; rfl, hb2⟩
  · have HF := Lib.hid (show R = false by rw [HR.out, decide_eq_false hq]; rfl)
    have hd0 : decide (q ≥ 0) = false := by simp; omega
    clear hrr
    go_wp2_with fail
    go_ret
    exact ⟨by rw [HF.out]; rfl, hb2⟩
set_option maxHeartbeats 4000000 in
set_option maxRecDepth 100000 in
theorem specWalkWord (vg vk : Value) (g : Gr) (k : Wk) (w : World) (hgv : GrV 0 w.heap.size w vg g) (hkv : WkV 0 w.heap.size w vk k) :
    Calls Tryz.prog 29 #[vg, vk] w fun e w' => ∃ v', e = .returned v' ∧ Own w.heap.size w'.heap.size w' 3 cI 1 v' (wordL g k) ∧ Below w.heap.size w w' := by
  have HGV := Lib.hid hgv
  have HKV := Lib.hid hkv
  obtain ⟨A1, n1, c1, A2, n2, c2, rfl⟩ := hgv.shape
  obtain ⟨A3, c3, rfl, hl3, hm3, hC3⟩ := hkv.form
  have HC3 := Lib.hid hC3
  clear hgv hkv hC3
  obtain ⟨R, hR⟩ : ∃ R, R = wordL g k := ⟨_, rfl⟩
  rw [← hR]
  have HR := Lib.hid hR
  clear hR
  have hb0 := ((Below.refl w.heap.size w).alloc (Nat.le_refl _) (.cells #[.slice A1 n1 c1, .slice A2 n2 c2] 27)).alloc (by simp) (.cells #[.int .i64 k.1, .slice A3 k.2.length c3] 43)
  have bg := ((Blk.new w 27 #[.slice A1 n1 c1, .slice A2 n2 c2] _ rfl).alloc (.cells #[.int .i64 k.1, .slice A3 k.2.length c3] 43)).alloc (.cells #[] 3)
  have bw := (Blk.new (w.alloc (.cells #[.slice A1 n1 c1, .slice A2 n2 c2] 27)) 43 #[.int .i64 k.1, .slice A3 k.2.length c3] (w.heap.size + 1) (by simp)).alloc (.cells #[] 3)
  have hrow := World.ownsRow_lit (base := w.heap.size + 1 + 1) (e := 3) (size := 1) ((w.alloc (.cells #[.slice A1 n1 c1, .slice A2 n2 c2] 27)).alloc (.cells #[.int .i64 k.1, .slice A3 k.2.length c3] 43)) #[] 0 (by simp) (by decide) rfl
  have hb1 := hb0.alloc hb0.size (.cells #[] 3)
  go_enter Tryz.func29, Tryz.ntmps29
  go_wp2_with fail
  have hgo : w.heap.size + 1 + 1 < (((w.alloc (.cells #[.slice A1 n1 c1, .slice A2 n2 c2] 27)).alloc (.cells #[.int .i64 k.1, .slice A3 k.2.length c3] 43)).alloc (.cells #[] 3)).heap.size := by simp
  generalize (((w.alloc (.cells #[.slice A1 n1 c1, .slice A2 n2 c2] 27)).alloc (.cells #[.int .i64 k.1, .slice A3 k.2.length c3] 43)).alloc (.cells #[] 3)) = W at *
  have x0 : W.cell? ⟨w.heap.size, 0, none⟩ = some (.slice A1 n1 c1) := by exact bg.cell 0
  have x1 : W.cell? ⟨w.heap.size, 1, none⟩ = some (.slice A2 n2 c2) := by exact bg.cell 1
  have y0 : W.cell? ⟨w.heap.size + 1, 0, none⟩ = some (.int .i64 k.1) := by exact bw.cell 0
  have y1 : W.cell? ⟨w.heap.size + 1, 1, none⟩ = some (.slice A3 k.2.length c3) := by exact bw.cell 1
  clear bg bw hb0
  obtain ⟨gO, hgO⟩ : ∃ gO, gO = w.heap.size + 1 + 1 := ⟨_, rfl⟩
  have hwg : w.heap.size + 1 < gO := by omega
  have HROW := Lib.hid (show W.ownsRow gO 3 1 (.slice (some ⟨gO, 0, none⟩) 0 0) ([] : List Int).length (([] : List Int).flatMap cI) by rw [hgO]; simpa using hrow)
  rw [← hgO] at hgo ⊢
  clear hgO hrow
  obtain ⟨N, hN⟩ : ∃ N, N = k.2.length := ⟨_, rfl⟩
  rw [← hN] at hl3 y1 ⊢
  have HN := Lib.hid hN
  clear hN
  have HW := Lib.hid (show N = 0 ∨ walkOk g k = false ∨ N ≤ 60 by
    cases hw : walkOk g k with
    | false => exact .inr (.inl rfl)
    | true => exact .inr (.inr (by rw [HN.out]; exact (walkOk_parts hw).2.2.1)))
  go_loopw [5, 6] (fun oo ii wr => ∃ i : Nat, i ≤ N ∧ (i = 0 ∨ walkOk g k = true) ∧ ii = .int .i64 (i : Int) ∧ wr.ownsRow gO 3 1 oo ((k.2.take i).map (stepLetter g)).length (((k.2.take i).map (stepLetter g)).flatMap cI) ∧ Only gO (gO + 1) W wr ∧ (∀ b, oo.ownBlock = some b → b = gO ∨ W.heap.size ≤ b)) (fun _ ii _ => N - (intOf ii).toNat)
  case atStart => exact ⟨0, Nat.zero_le _, .inl rfl, rfl, by simpa using HROW.out, Only.refl _ _ _, fun b hb => by injection hb with hb; exact .inl hb.symm⟩
  case round =>
    clear HROW
    obtain ⟨i, hi, hi0, rfl, hrow, hon, hout⟩ := hrel
    have HROW := Lib.hid hrow
    have HOUT := Lib.hid hout
    have HI0 := Lib.hid hi0
    clear hrow hout hi0
    have hbr : Below w.heap.size w wr := hb1.trans (hon.below (by omega) hb1.size)
    replace x0 := ocell hon x0 (by omega) (.inl (by omega))
    replace x1 := ocell hon x1 (by omega) (.inl (by omega))
    replace y0 := ocell hon y0 (by omega) (.inl (by omega))
    replace y1 := ocell hon y1 (by omega) (.inl (by omega))
    by_cases hlt : i < N
    · have hlt2 : i < k.2.length := by rw [← HN.out]; exact hlt
      have hii : (i : Int) < (N : Int) := by omega
      have HKV2 := Lib.hid (HKV.out.keep hbr)
      have HGV2 := Lib.hid (HGV.out.keep hbr)
      rw [← HN.out] at HKV2
      go_wp2_with fail
      refine (specIsWalk _ _ g k _ HGV2.out HKV2.out).mono ?_
      rintro e w1 ⟨rfl, hb2⟩
      have hbr2 := below_trans hbr hb2
      have hon2 := hon.trans (Only.of_below hb2 gO (gO + 1))
      have hrow2 := ownsRow_below HROW.out hb2 (Nat.le_refl _)
      replace x0 := kcell hb2 x0
      replace x1 := kcell hb2 x1
      replace y0 := kcell hb2 y0
      replace y1 := kcell hb2 y1
      have HROW := Lib.hid hrow2
      have HON := Lib.hid hon2
      have HGV3 := Lib.hid (HGV.out.keep hbr2)
      have HBR := Lib.hid hbr2
      have hs2 := hon2.size
      clear hb2 hrow2 hon hon2 hbr hbr2 HKV2 HGV2
      cases hw : walkOk g k with
      | false =>
        have hi0 : i = 0 := by
          rcases HI0.out with h | h
          · exact h
          · rw [hw] at h; cases h
        have hR0 : R = [] := by rw [HR.out, wordL, hw]; rfl
        have hrow := HROW.out
        rw [hi0] at hrow
        have hown := Own.of_row (xs := R) (ownsRow_mono (b := w.heap.size) (by rw [hR0]; exact hrow) (by omega)) rfl rfl
        obtain ⟨Ao, no, co, rfl⟩ := hown.shape
        have HO := Lib.hid hown
        clear hw hi0 hR0 hrow hown
        go_wp2_with fail
        go_ret
        exact ⟨_, rfl, HO.out, HBR.out⟩
      | true =>
        have HWO := Lib.hid hw
        have hN60 : N ≤ 60 := by
          rcases HW.out with h | h | h
          · omega
          · rw [hw] at h; cases h
          · exact h
        obtain ⟨st, hst⟩ : ∃ st, k.2[i]? = some st := ⟨_, List.getElem?_eq_getElem hlt2⟩
        obtain ⟨b5, o5, rfl, hb5, p0, p1⟩ := HC3.out.st hst
        have p0 := kcell HBR.out p0
        have p1 := kcell HBR.out p1
        have HM := Lib.hid (show ((k.2.take i).map (stepLetter g)) ++ [stepLetter g st] = (k.2.take (i + 1)).map (stepLetter g) by rw [take_snoc hst, List.map_append]; rfl)
        have hXL : ((k.2.take i).map (stepLetter g)).length ≤ 60 := by rw [List.length_map, List.length_take]; omega
        generalize ((k.2.take i).map (stepLetter g)) = XS at *
        have HNE := Lib.hid (show ∀ b, b < W.heap.size → b ≠ gO → some b ≠ u5.ownBlock from fun b h1 h2 h3 => by
          have := HOUT.out b h3.symm
          omega)
        have hb5W : b5 < W.heap.size := by have := hb1.size; omega
        have hb5g : b5 ≠ gO := by omega
        have N1 := HNE.out w.heap.size (by omega) (by omega)
        have N2 := HNE.out (w.heap.size + 1) (by omega) (by omega)
        have N3 := HNE.out b5 hb5W hb5g
        have HN1 := Lib.hid N1
        have HN2 := Lib.hid N2
        have HN3 := Lib.hid N3
        clear hw hst hlt2 N1 N2 N3
        go_wp2_with fail
        refine F_start 10 (fun w' => w'.cell? ⟨w.heap.size, 0, none⟩ = some (.slice A1 n1 c1) ∧ w'.cell? ⟨w.heap.size, 1, none⟩ = some (.slice A2 n2 c2) ∧ w'.cell? ⟨w.heap.size + 1, 1, none⟩ = some (.slice (some ⟨b5, o5, none⟩) N c3) ∧ w'.cell? ⟨b5, o5 + i * 2, none⟩ = some (.int .i64 st.1) ∧ w'.cell? ⟨b5, o5 + i * 2 + 1, none⟩ = some (.bool st.2)) (by kernel_rfl) (by exact ⟨x0, x1, y1, p0, p1⟩) (fun hS inv => ?_)
        refine F_take (i := 0) (v := ?_) rfl (by kernel_rfl) (by kernel_rfl) (by kernel_rfl) (fun _ _ _ h => h) inv (Or.inl ⟨by rfl, ?_⟩) (by assumption) (fun invn => ?_)
        rotate_left
        · (intro w hSw; (try dsimp only at hSw); go_simp; try with_reducible rfl)
        try simp only [List.getElem_toArray, List.getElem_cons_zero, List.getElem_cons_succ, Act.put, List.setIfInBounds_toArray, List.set_cons_zero, List.set_cons_succ]
        clear inv
        have inv := invn
        clear invn
        refine F_take (i := 1) (v := ?_) rfl (by kernel_rfl) (by kernel_rfl) (by kernel_rfl) (fun _ _ _ h => h) inv (Or.inl ⟨by rfl, ?_⟩) (by assumption) (fun invn => ?_)
        rotate_left
        · (intro w hSw; (try dsimp only at hSw); go_simp; try with_reducible rfl)
        try simp only [List.getElem_toArray, List.getElem_cons_zero, List.getElem_cons_succ, Act.put, List.setIfInBounds_toArray, List.set_cons_zero, List.set_cons_succ]
        clear inv
        have inv := invn
        clear invn
        refine F_take (i := 2) (v := ?_) rfl (by kernel_rfl) (by kernel_rfl) (by kernel_rfl) (fun _ _ _ h => h) inv (Or.inl ⟨by rfl, ?_⟩) (by assumption) (fun invn => ?_)
        rotate_left
        · (intro w hSw; (try dsimp only at hSw); go_simp; try with_reducible rfl)
        try simp only [List.getElem_toArray, List.getElem_cons_zero, List.getElem_cons_succ, Act.put, List.setIfInBounds_toArray, List.set_cons_zero, List.set_cons_succ]
        clear inv
        have inv := invn
        clear invn
        refine F_take (i := 3) (v := ?_) rfl (by kernel_rfl) (by kernel_rfl) (by kernel_rfl) (fun _ _ _ h => h) inv (Or.inl ⟨by rfl, ?_⟩) (by assumption) (fun invn => ?_)
        rotate_left
        · (intro w hSw; (try dsimp only at hSw); go_simp; try with_reducible rfl)
        try simp only [List.getElem_toArray, List.getElem_cons_zero, List.getElem_cons_succ, Act.put, List.setIfInBounds_toArray, List.set_cons_zero, List.set_cons_succ]
        clear inv
        have inv := invn
        clear invn
        refine F_take (i := 4) (v := ?_) rfl (by kernel_rfl) (by kernel_rfl) (by kernel_rfl) (fun _ _ _ h => h) inv (Or.inl ⟨by rfl, ?_⟩) (by assumption) (fun invn => ?_)
        rotate_left
        · (intro w hSw; (try dsimp only at hSw); go_simp; try with_reducible rfl)
        try simp only [List.getElem_toArray, List.getElem_cons_zero, List.getElem_cons_succ, Act.put, List.setIfInBounds_toArray, List.set_cons_zero, List.set_cons_succ]
        clear inv
        have inv := invn
        clear invn
        refine F_take (i := 5) (v := ?_) rfl (by kernel_rfl) (by kernel_rfl) (by kernel_rfl) (fun _ _ _ h => h) inv (Or.inl ⟨by rfl, ?_⟩) (by assumption) (fun invn => ?_)
        rotate_left
        · (intro w hSw; (try dsimp only at hSw); go_simp; try with_reducible rfl)
        try simp only [List.getElem_toArray, List.getElem_cons_zero, List.getElem_cons_succ, Act.put, List.setIfInBounds_toArray, List.set_cons_zero, List.set_cons_succ]
        clear inv
        have inv := invn
        clear invn
        refine F_take (i := 6) (v := ?_) rfl (by kernel_rfl) (by kernel_rfl) (by kernel_rfl) (fun _ _ _ h => h) inv (Or.inl ⟨by rfl, ?_⟩) (by assumption) (fun invn => ?_)
        rotate_left
        · (intro w hSw; (try dsimp only at hSw); go_simp; try with_reducible rfl)
        try simp only [List.getElem_toArray, List.getElem_cons_zero, List.getElem_cons_succ, Act.put, List.setIfInBounds_toArray, List.set_cons_zero, List.set_cons_succ]
        clear inv
        have inv := invn
        clear invn
        clear x0 x1 y0 y1 p0 p1
        refine F_one (i := 7) (by kernel_rfl) rfl rfl (by omega) inv (fun K hK => ?_)
        try simp only [List.getElem_toArray, List.getElem_cons_zero, List.getElem_cons_succ]
        go_simp
        refine (specStepLetter _ g st w1.drew (HGV3.out.keep (Below.refl w1.heap.size w1).drew)).mono ?_
        rintro e wT ⟨rfl, hbT⟩
        refine hK.out _ _ (kB5 hbT hS) (fun hSn invn => ?_)
        try simp only [List.getElem_toArray, List.getElem_cons_zero, List.getElem_cons_succ, Act.put, List.setIfInBounds_toArray, List.set_cons_zero, List.set_cons_succ]
        clear hK K inv hS
        have inv := invn
        have hS := hSn
        clear invn hSn
        have hbT := below_trans (Below.refl w1.heap.size w1).drew hbT
        have HRT := Lib.hid (ownsRow_below HROW.out hbT (Nat.le_refl _))
        have HONT := Lib.hid (HON.out.trans (Only.of_below hbT gO (gO + 1)))
        have hsT : w1.heap.size ≤ wT.heap.size := hbT.size
        clear hbT
        refine F_one (i := 8) (by kernel_rfl) rfl rfl (by omega) inv (fun K hK => ?_)
        try simp only [List.getElem_toArray, List.getElem_cons_zero, List.getElem_cons_succ]
        go_simp
        refine hK.out _ _ (kA5 _ hS) (fun hSn invn => ?_)
        try simp only [List.getElem_toArray, List.getElem_cons_zero, List.getElem_cons_succ, Act.put, List.setIfInBounds_toArray, List.set_cons_zero, List.set_cons_succ]
        clear hK K inv hS
        have inv := invn
        have hS := hSn
        clear invn hSn
        refine F_one (i := 9) (by kernel_rfl) rfl rfl (by omega) inv (fun K hK => ?_)
        try simp only [List.getElem_toArray, List.getElem_cons_zero, List.getElem_cons_succ]
        refine op_append1 cI elInt rfl _ _ (by rfl) gO _ XS (stepLetter g st) 1 _ (by rfl) (HRT.out.alloc _) (by first | rfl | simp) (heap_alloc_new _ _) rfl (cI_one _) (by omega) (by omega) (by simp; omega) ?_
        intro g2 cp2 w3 hown3 hgr3 hat3 hlt3
        have HW3 := Lib.hid hown3
        have HG3 := Lib.hid hgr3
        have HA3 := Lib.hid hat3
        clear hown3 hgr3 hat3
        refine hK.out _ _ (kG5 HG3.out HN1.out HN1.out HN2.out HN3.out HN3.out hS) (fun hSn invn => ?_)
        try simp only [List.getElem_toArray, List.getElem_cons_zero, List.getElem_cons_succ, Act.put, List.setIfInBounds_toArray, List.set_cons_zero, List.set_cons_succ]
        clear hK K inv hS
        have inv := invn
        have hS := hSn
        clear invn hSn
        refine F_last (i := 10) (by kernel_rfl) rfl rfl (by omega) (by kernel_rfl) (fun K hK => ?_)
        go_simp
        refine hK _ _ ?_
        clear hK K inv hS
        have hat := HA3.out.imp id (Nat.le_trans (show wT.heap.size ≤ _ by simp))
        go_wp2_with fail
        go_roundw
        case rel =>
          refine ⟨i + 1, by omega, .inr HWO.out, by go_num, by rw [← HM.out]; simpa using HW3.out, (HONT.out.alloc _).grown HG3.out (fun b hb => by have := HOUT.out b hb; omega), fun b hb => ?_⟩
          injection hb with hb
          subst hb
          rcases hat with h | h
          · exact HOUT.out _ h
          · exact .inr (Nat.le_trans (show W.heap.size ≤ wT.heap.size by omega) h)
        case measure => simp [intOf]; omega
    · obtain rfl : i = N := by omega
      have hR0 : R = (k.2.take i).map (stepLetter g) := by
        have ht : k.2.take i = k.2 := by rw [HN.out, List.take_length]
        rw [HR.out, wordL, ht]
        rcases HI0.out with h | h
        · have : k.2 = [] := by
            have := HN.out
            exact List.eq_nil_of_length_eq_zero (by omega)
          rw [this]; simp
        · rw [if_pos h]
      have hown := Own.of_row (xs := R) (ownsRow_mono (b := w.heap.size) (by rw [hR0]; exact HROW.out) (by omega)) rfl rfl
      obtain ⟨Ao, no, co, rfl⟩ := hown.shape
      have HO := Lib.hid hown
      clear hR0 hown
      go_wp2_with fail
      go_ret
      exact ⟨_, rfl, HO.out, hbr⟩
end Go.Proofs.YtallglnmeeahiaaGreat
namespace Go.Proofs.YtallglnmeeahiaaGreat
set_option linter.unusedVariables false
set_option linter.unusedSimpArgs false
open Go.ChangeShapes Go.WideShapes Go.ChangeAt Go.RowKit
attribute [local go_sem] ext_cell ext_frozen ext_lt ext_lt1 ext_lt2 ext_lt3 ltn2 ltn3 ltn13 lts1 lts2 lts3
/-- a state of a good automaton -/
def hasSt (a : Au) (s : Int) : Bool := wi s 0 ((a.accept.length : Int) - 1) && auOk a
set_option maxHeartbeats 1000000 in
theorem hasState_any (v : Value) (a : Au) (s : Int) (w : World) (hv : AuV 0 w.heap.size w v a) :
    Calls Tryz.prog 53 #[v, .int .i64 s] w fun e w' => e = .returned (.bool (hasSt a s)) ∧ Below w.heap.size w w' := by
  have hv0 := hv
  obtain ⟨ac, nx, rfl, ⟨A1, c1, rfl, hl1, hm1, -⟩, -⟩ := hv
  unfold maxLen at hm1
  have hb0 : Below w.heap.size w (w.alloc (.cells #[.int .i64 a.start, .slice A1 a.accept.length c1, nx] 31)) := (Below.refl _ _).alloc (Nat.le_refl _) _
  have HA := Lib.hid (implValidAutomaton _ a _ (hv0.keep hb0))
  have HV := Lib.hid hv0
  clear hv0
  obtain ⟨B, hB⟩ : ∃ B, B = wi s 0 ((a.accept.length : Int) - 1) := ⟨_, rfl⟩
  rw [hasSt, ← hB]
  have HB := Lib.hid hB
  clear hB
  go_enter Tryz.func53, Tryz.ntmps53
  go_wp2_with fail
  refine (within_any _ _ _ _).mono ?_
  rintro e w1 ⟨rfl, hw⟩
  rw [hw, ← HB.out]
  clear hw
  cases B
  · go_wp2_with fail
    go_ret
    exact ⟨rfl, hb0⟩
  · go_wp2_with fail
    refine HA.out.mono ?_
    rintro e w2 ⟨rfl, hb2⟩
    go_wp2_with fail
    go_ret
    exact ⟨by rw [Bool.true_and]; rfl, below_trans hb0 hb2⟩
end Go.Proofs.YtallglnmeeahiaaGreat
namespace Go.Proofs.YtallglnmeeahiaaGreat
set_option linter.unusedVariables false
set_option linter.unusedSimpArgs false
open Go.ChangeShapes Go.WideShapes Go.ChangeAt Go.RowKit
attribute [local go_sem] ext_cell ext_frozen ext_lt ext_lt1 ext_lt2 ext_lt3 ltn2 ltn3 ltn13 lts1 lts2 lts3
set_option maxHeartbeats 4000000 in
set_option maxRecDepth 100000 in
theorem implAcceptsAt_ok (vg va : Value) (g : Gr) (a : Au) (x s : Nat) (w : World) (hgv : GrV 0 w.heap.size w vg g) (hav : AuV 0 w.heap.size w va a) (hgo : grOk g = true) (hao : auOk a = true) (hx : x < g.vals.length) (hs : s < a.accept.length) :
    Calls Tryz.prog 26 #[vg, va, .int .i64 (x : Int), .int .i64 (s : Int)] w fun e w' => e = .returned (.bool (accC a (valAt g x) s)) ∧ Below w.heap.size w w' := by
  have HGV := Lib.hid hgv
  have HAV := Lib.hid hav
  obtain ⟨A1, c1, A2, c2, rfl, hl1, hm1, hl2, hm2, hC1, -⟩ := hgv.form
  obtain ⟨A3, n3, c3, A4, n4, c4, rfl⟩ := hav.shape
  have hgo2 := grOk_iff.1 hgo
  have hn12 := (auOk_iff.1 hao).1.2
  have hxi : g.vals[x]? = some g.vals[x] := List.getElem?_eq_getElem hx
  have hvr := hgo2.vals _ (List.getElem_mem hx)
  generalize g.vals[x] = vx at hxi hvr
  obtain ⟨vx, rfl⟩ := Int.eq_ofNat_of_zero_le hvr.1
  have hva := valAt_of hxi
  rw [Int.toNat_natCast] at hva
  obtain ⟨b1, o1, rfl, hb1, dv⟩ := hC1.int hxi
  rw [hva, ← acc_one a vx (by omega)]
  have hb0 := ((Below.refl w.heap.size w).alloc (Nat.le_refl _) (.cells #[.slice (some ⟨b1, o1, none⟩) g.vals.length c1, .slice A2 g.edges.length c2] 27)).alloc (by simp) (.cells #[.int .i64 a.start, .slice A3 n3 c3, .slice A4 n4 c4] 31)
  have bg := (Blk.new w 27 #[.slice (some ⟨b1, o1, none⟩) g.vals.length c1, .slice A2 g.edges.length c2] _ rfl).alloc (.cells #[.int .i64 a.start, .slice A3 n3 c3, .slice A4 n4 c4] 31)
  have ba := Blk.new (w.alloc (.cells #[.slice (some ⟨b1, o1, none⟩) g.vals.length c1, .slice A2 g.edges.length c2] 27)) 31 #[.int .i64 a.start, .slice A3 n3 c3, .slice A4 n4 c4] (w.heap.size + 1) (by simp)
  have dv := kcell hb0 dv
  have HBO := Lib.hid (show ∀ W, Below w.heap.size w W → SlE (W.alloc (.cells #[.int .i64 (x : Int)] 3)) cI 1 (.slice (some ⟨W.heap.size, 0, none⟩) 1 1) [(x : Int)] → Calls Tryz.prog 37 #[.agg #[.slice (some ⟨b1, o1, none⟩) g.vals.length c1, .slice A2 g.edges.length c2], .agg #[.int .i64 a.start, .slice A3 n3 c3, .slice A4 n4 c4], .slice (some ⟨W.heap.size, 0, none⟩) 1 1] (W.alloc (.cells #[.int .i64 (x : Int)] 3)) fun e w' => e = .returned (.bool true) ∧ Below (W.alloc (.cells #[.int .i64 (x : Int)] 3)).heap.size (W.alloc (.cells #[.int .i64 (x : Int)] 3)) w' from fun W hW hst => by
    have hb := hW.alloc hW.size (.cells #[.int .i64 (x : Int)] 3)
    have h := bothOk_any _ _ _ g a [(x : Int)] _ (HGV.out.keep hb) (HAV.out.keep hb) hst
    have h1 : ([(x : Int)].all (fun s => wi s 0 ((g.vals.length : Int) - 1)) && (grOk g && auOk a)) = true := by
      have h2 : wi (x : Int) 0 ((g.vals.length : Int) - 1) = true := by rw [wi_iff]; omega
      simp [h2, hgo, hao]
    rwa [h1] at h)
  have HHS := Lib.hid (show ∀ W, Below w.heap.size w W → Calls Tryz.prog 53 #[.agg #[.int .i64 a.start, .slice A3 n3 c3, .slice A4 n4 c4], .int .i64 (s : Int)] W fun e w' => e = .returned (.bool true) ∧ Below W.heap.size W w' from fun W hW => by
    have h := hasState_any _ a (s : Int) W (HAV.out.keep hW)
    have h1 : hasSt a (s : Int) = true := by
      have h2 : wi (s : Int) 0 ((a.accept.length : Int) - 1) = true := by rw [wi_iff]; omega
      rw [hasSt, h2, hao]; rfl
    rwa [h1] at h)
  have HAC := Lib.hid (fun W (hW : Below w.heap.size w W) => acceptsAt_any _ a (bit s) vx W (HAV.out.keep hW) hao (bit_lt hs) (by omega))
  have hxl : (x : Int) < (g.vals.length : Int) := by omega
  have s1 := shl_bit (s := s) (by omega)
  have s2 := shl_bit2 (s := s) (by omega)
  have s3 := shl_bit3 (s := s) (by omega)
  clear hgv hav hC1 hgo hao hgo2 hva hxi hvr
  go_enter Tryz.func26, Tryz.ntmps26
  go_wp2_with fail
  generalize ((w.alloc (.cells #[.slice (some ⟨b1, o1, none⟩) g.vals.length c1, .slice A2 g.edges.length c2] 27)).alloc (.cells #[.int .i64 a.start, .slice A3 n3 c3, .slice A4 n4 c4] 31)) = W at *
  have x0 : W.cell? ⟨w.heap.size, 0, none⟩ = some (.slice (some ⟨b1, o1, none⟩) g.vals.length c1) := by exact bg.cell 0
  have x1 : W.cell? ⟨w.heap.size, 1, none⟩ = some (.slice A2 g.edges.length c2) := by exact bg.cell 1
  have y0 : W.cell? ⟨w.heap.size + 1, 0, none⟩ = some (.int .i64 a.start) := by exact ba.cell 0
  have y1 : W.cell? ⟨w.heap.size + 1, 1, none⟩ = some (.slice A3 n3 c3) := by exact ba.cell 1
  have y2 : W.cell? ⟨w.heap.size + 1, 2, none⟩ = some (.slice A4 n4 c4) := by exact ba.cell 2
  clear bg ba
  go_wp2_with fail
  refine F_start 21 (fun w' => w'.cell? ⟨w.heap.size, 0, none⟩ = some (.slice (some ⟨b1, o1, none⟩) g.vals.length c1) ∧ w'.cell? ⟨w.heap.size, 1, none⟩ = some (.slice A2 g.edges.length c2) ∧ w'.cell? ⟨w.heap.size + 1, 0, none⟩ = some (.int .i64 a.start) ∧ w'.cell? ⟨w.heap.size + 1, 1, none⟩ = some (.slice A3 n3 c3) ∧ w'.cell? ⟨w.heap.size + 1, 2, none⟩ = some (.slice A4 n4 c4) ∧ w'.cell? ⟨b1, o1 + x, none⟩ = some (.int .i64 (vx : Int))) (by kernel_rfl) (by exact ⟨x0, x1, y0, y1, y2, dv⟩) (fun hS inv => ?_)
  refine F_take (i := 0) (v := ?_) rfl (by kernel_rfl) (by kernel_rfl) (by kernel_rfl) (fun _ _ _ h => h) inv (Or.inl ⟨by rfl, ?_⟩) (by assumption) (fun invn => ?_)
  rotate_left
  · (intro w hSw; (try dsimp only at hSw); go_simp; try with_reducible rfl)
  try simp only [List.getElem_toArray, List.getElem_cons_zero, List.getElem_cons_succ, Act.put, List.setIfInBounds_toArray, List.set_cons_zero, List.set_cons_succ]
  clear inv
  have inv := invn
  clear invn
  refine F_take (i := 1) (v := ?_) rfl (by kernel_rfl) (by kernel_rfl) (by kernel_rfl) (fun _ _ _ h => h) inv (Or.inl ⟨by rfl, ?_⟩) (by assumption) (fun invn => ?_)
  rotate_left
  · (intro w hSw; (try dsimp only at hSw); go_simp; try with_reducible rfl)
  try simp only [List.getElem_toArray, List.getElem_cons_zero, List.getElem_cons_succ, Act.put, List.setIfInBounds_toArray, List.set_cons_zero, List.set_cons_succ]
  clear inv
  have inv := invn
  clear invn
  refine F_take (i := 2) (v := ?_) rfl (by kernel_rfl) (by kernel_rfl) (by kernel_rfl) (fun _ _ _ h => h) inv (Or.inl ⟨by rfl, ?_⟩) (by assumption) (fun invn => ?_)
  rotate_left
  · (intro w hSw; (try dsimp only at hSw); go_simp; try with_reducible rfl)
  try simp only [List.getElem_toArray, List.getElem_cons_zero, List.getElem_cons_succ, Act.put, List.setIfInBounds_toArray, List.set_cons_zero, List.set_cons_succ]
  clear inv
  have inv := invn
  clear invn
  have hbd := hb0.drew
  have hst := lit_sl W.drew 3 [(x : Int)] (by unfold maxLen; simp)
  have HST := Lib.hid hst
  clear x0 x1 y0 y1 y2 dv hb0 hst
  refine F_one (i := 3) (by kernel_rfl) rfl rfl (by omega) inv (fun K hK => ?_)
  try simp only [List.getElem_toArray, List.getElem_cons_zero, List.getElem_cons_succ]
  go_simp
  refine hK.out _ _ (kA6 _ hS) (fun hSn invn => ?_)
  try simp only [List.getElem_toArray, List.getElem_cons_zero, List.getElem_cons_succ, Act.put, List.setIfInBounds_toArray, List.set_cons_zero, List.set_cons_succ]
  clear hK K inv hS
  have inv := invn
  have hS := hSn
  clear invn hSn
  refine F_one (i := 4) (by kernel_rfl) rfl rfl (by omega) inv (fun K hK => ?_)
  try simp only [List.getElem_toArray, List.getElem_cons_zero, List.getElem_cons_succ]
  go_simp
  refine (HBO.out W.drew hbd (by simpa using HST.out)).mono ?_
  rintro e w1 ⟨rfl, hb1⟩
  refine hK.out _ _ (kB6 hb1 hS) (fun hSn invn => ?_)
  try simp only [List.getElem_toArray, List.getElem_cons_zero, List.getElem_cons_succ, Act.put, List.setIfInBounds_toArray, List.set_cons_zero, List.set_cons_succ]
  clear hK K inv hS
  have inv := invn
  have hS := hSn
  clear invn hSn
  have hb2 := below_trans (hbd.alloc hbd.size (.cells #[.int .i64 (x : Int)] 3)) hb1
  clear hb1 hbd
  refine F_take (i := 5) (v := ?_) rfl (by kernel_rfl) (by kernel_rfl) (by kernel_rfl) (fun _ _ _ h => h) inv (Or.inl ⟨by rfl, ?_⟩) (by assumption) (fun invn => ?_)
  rotate_left
  · (intro w hSw; (try dsimp only at hSw); go_simp; try with_reducible rfl)
  try simp only [List.getElem_toArray, List.getElem_cons_zero, List.getElem_cons_succ, Act.put, List.setIfInBounds_toArray, List.set_cons_zero, List.set_cons_succ]
  clear inv
  have inv := invn
  clear invn
  refine F_take (i := 6) (v := ?_) rfl (by kernel_rfl) (by kernel_rfl) (by kernel_rfl) (fun _ _ _ h => h) inv (Or.inl ⟨by rfl, ?_⟩) (by assumption) (fun invn => ?_)
  rotate_left
  · (intro w hSw; (try dsimp only at hSw); go_simp; try with_reducible rfl)
  try simp only [List.getElem_toArray, List.getElem_cons_zero, List.getElem_cons_succ, Act.put, List.setIfInBounds_toArray, List.set_cons_zero, List.set_cons_succ]
  clear inv
  have inv := invn
  clear invn
  refine F_take (i := 7) (v := ?_) rfl (by kernel_rfl) (by kernel_rfl) (by kernel_rfl) (fun _ _ _ h => h) inv (Or.inl ⟨by rfl, ?_⟩) (by assumption) (fun invn => ?_)
  rotate_left
  · (intro w hSw; (try dsimp only at hSw); go_simp; try with_reducible rfl)
  try simp only [List.getElem_toArray, List.getElem_cons_zero, List.getElem_cons_succ, Act.put, List.setIfInBounds_toArray, List.set_cons_zero, List.set_cons_succ]
  clear inv
  have inv := invn
  clear invn
  refine F_oneH (i := 8) (by kernel_rfl) rfl (by rfl) (by omega) inv (fun K hK => ?_)
  try simp only [List.getElem_toArray, List.getElem_cons_zero, List.getElem_cons_succ]
  go_simp
  refine (HHS.out w1 hb2).mono ?_
  rintro e w2 ⟨rfl, hb3⟩
  refine hK.out _ _ (kB6 hb3 hS) (fun hSn invn => ?_)
  try simp only [List.getElem_toArray, List.getElem_cons_zero, List.getElem_cons_succ, Act.put, List.setIfInBounds_toArray, List.set_cons_zero, List.set_cons_succ]
  clear hK K inv hS
  have inv := invn
  have hS := hSn
  clear invn hSn
  have hb4 := below_trans hb2 hb3
  clear hb3 hb2
  refine F_take (i := 9) (v := ?_) rfl (by kernel_rfl) (by kernel_rfl) (by kernel_rfl) (fun _ _ _ h => h) inv (Or.inl ⟨by rfl, ?_⟩) (by assumption) (fun invn => ?_)
  rotate_left
  · (intro w hSw; (try dsimp only at hSw); go_simp; try with_reducible rfl)
  try simp only [List.getElem_toArray, List.getElem_cons_zero, List.getElem_cons_succ, Act.put, List.setIfInBounds_toArray, List.set_cons_zero, List.set_cons_succ]
  clear inv
  have inv := invn
  clear invn
  refine F_take (i := 10) (v := ?_) rfl (by kernel_rfl) (by kernel_rfl) (by kernel_rfl) (fun _ _ _ h => h) inv (Or.inl ⟨by rfl, ?_⟩) (by assumption) (fun invn => ?_)
  rotate_left
  · (intro w hSw; (try dsimp only at hSw); go_simp; try with_reducible rfl)
  try simp only [List.getElem_toArray, List.getElem_cons_zero, List.getElem_cons_succ, Act.put, List.setIfInBounds_toArray, List.set_cons_zero, List.set_cons_succ]
  clear inv
  have inv := invn
  clear invn
  refine F_take (i := 11) (v := ?_) rfl (by kernel_rfl) (by kernel_rfl) (by kernel_rfl) (fun _ _ _ h => h) inv (Or.inl ⟨by rfl, ?_⟩) (by assumption) (fun invn => ?_)
  rotate_left
  · (intro w hSw; (try dsimp only at hSw); go_simp; try with_reducible rfl)
  try simp only [List.getElem_toArray, List.getElem_cons_zero, List.getElem_cons_succ, Act.put, List.setIfInBounds_toArray, List.set_cons_zero, List.set_cons_succ]
  clear inv
  have inv := invn
  clear invn
  refine F_take (i := 12) (v := ?_) rfl (by kernel_rfl) (by kernel_rfl) (by kernel_rfl) (fun _ _ _ h => h) inv (Or.inl ⟨by rfl, ?_⟩) (by assumption) (fun invn => ?_)
  rotate_left
  · (intro w hSw; (try dsimp only at hSw); go_simp; try with_reducible rfl)
  try simp only [List.getElem_toArray, List.getElem_cons_zero, List.getElem_cons_succ, Act.put, List.setIfInBounds_toArray, List.set_cons_zero, List.set_cons_succ]
  clear inv
  have inv := invn
  clear invn
  refine F_take (i := 13) (v := ?_) rfl (by kernel_rfl) (by kernel_rfl) (by kernel_rfl) (fun _ _ _ h => h) inv (Or.inl ⟨by rfl, ?_⟩) (by assumption) (fun invn => ?_)
  rotate_left
  · (intro w hSw; (try dsimp only at hSw); go_simp; try with_reducible rfl)
  try simp only [List.getElem_toArray, List.getElem_cons_zero, List.getElem_cons_succ, Act.put, List.setIfInBounds_toArray, List.set_cons_zero, List.set_cons_succ]
  clear inv
  have inv := invn
  clear invn
  refine F_take (i := 14) (v := ?_) rfl (by kernel_rfl) (by kernel_rfl) (by kernel_rfl) (fun _ _ _ h => h) inv (Or.inl ⟨by rfl, ?_⟩) (by assumption) (fun invn => ?_)
  rotate_left
  · (intro w hSw; (try dsimp only at hSw); go_simp; try with_reducible rfl)
  try simp only [List.getElem_toArray, List.getElem_cons_zero, List.getElem_cons_succ, Act.put, List.setIfInBounds_toArray, List.set_cons_zero, List.set_cons_succ]
  clear inv
  have inv := invn
  clear invn
  refine F_take (i := 15) (v := ?_) rfl (by kernel_rfl) (by kernel_rfl) (by kernel_rfl) (fun _ _ _ h => h) inv (Or.inl ⟨by rfl, ?_⟩) (by assumption) (fun invn => ?_)
  rotate_left
  · (intro w hSw; (try dsimp only at hSw); go_simp; try with_reducible rfl)
  try simp only [List.getElem_toArray, List.getElem_cons_zero, List.getElem_cons_succ, Act.put, List.setIfInBounds_toArray, List.set_cons_zero, List.set_cons_succ]
  clear inv
  have inv := invn
  clear invn
  refine F_take (i := 16) (v := ?_) rfl (by kernel_rfl) (by kernel_rfl) (by kernel_rfl) (fun _ _ _ h => h) inv (Or.inl ⟨by rfl, ?_⟩) (by assumption) (fun invn => ?_)
  rotate_left
  · (intro w hSw; (try dsimp only at hSw); go_simp; try with_reducible rfl)
  try simp only [List.getElem_toArray, List.getElem_cons_zero, List.getElem_cons_succ, Act.put, List.setIfInBounds_toArray, List.set_cons_zero, List.set_cons_succ]
  clear inv
  have inv := invn
  clear invn
  refine F_take (i := 17) (v := ?_) rfl (by kernel_rfl) (by kernel_rfl) (by kernel_rfl) (fun _ _ _ h => h) inv (Or.inl ⟨by rfl, ?_⟩) (by assumption) (fun invn => ?_)
  rotate_left
  · (intro w hSw; (try dsimp only at hSw); go_simp; try with_reducible rfl)
  try simp only [List.getElem_toArray, List.getElem_cons_zero, List.getElem_cons_succ, Act.put, List.setIfInBounds_toArray, List.set_cons_zero, List.set_cons_succ]
  clear inv
  have inv := invn
  clear invn
  refine F_take (i := 18) (v := ?_) rfl (by kernel_rfl) (by kernel_rfl) (by kernel_rfl) (fun _ _ _ h => h) inv (Or.inl ⟨by rfl, ?_⟩) (by assumption) (fun invn => ?_)
  rotate_left
  · (intro w hSw; (try dsimp only at hSw); go_simp; try with_reducible rfl)
  try simp only [List.getElem_toArray, List.getElem_cons_zero, List.getElem_cons_succ, Act.put, List.setIfInBounds_toArray, List.set_cons_zero, List.set_cons_succ]
  clear inv
  have inv := invn
  clear invn
  refine F_oneH (i := 19) (by kernel_rfl) rfl (by rfl) (by omega) inv (fun K hK => ?_)
  try simp only [List.getElem_toArray, List.getElem_cons_zero, List.getElem_cons_succ]
  go_simp
  refine (HAC.out w2 hb4).mono ?_
  rintro e w3 ⟨rfl, hb5⟩
  refine hK.out _ _ (kB6 hb5 hS) (fun hSn invn => ?_)
  try simp only [List.getElem_toArray, List.getElem_cons_zero, List.getElem_cons_succ, Act.put, List.setIfInBounds_toArray, List.set_cons_zero, List.set_cons_succ]
  clear hK K inv hS
  have inv := invn
  have hS := hSn
  clear invn hSn
  have HB6 := Lib.hid (below_trans hb4 hb5)
  clear hb4 hb5
  refine F_take (i := 20) (v := ?_) rfl (by kernel_rfl) (by kernel_rfl) (by kernel_rfl) (fun _ _ _ h => h) inv (Or.inl ⟨by rfl, ?_⟩) (by assumption) (fun invn => ?_)
  rotate_left
  · (intro w hSw; (try dsimp only at hSw); go_simp; try with_reducible rfl)
  try simp only [List.getElem_toArray, List.getElem_cons_zero, List.getElem_cons_succ, Act.put, List.setIfInBounds_toArray, List.set_cons_zero, List.set_cons_succ]
  clear inv
  have inv := invn
  clear invn
  refine F_last (i := 21) (by kernel_rfl) rfl rfl (by omega) (by kernel_rfl) (fun K hK => ?_)
  go_simp
  refine hK _ _ ?_
  clear hK K
  clear s1 s2 s3
  go_wp2_with fail
  go_ret
  exact ⟨rfl, HB6.out⟩
end Go.Proofs.YtallglnmeeahiaaGreat
namespace Go.Proofs.YtallglnmeeahiaaGreat
set_option linter.unusedVariables false
set_option linter.unusedSimpArgs false
open Go.ChangeShapes Go.WideShapes Go.ChangeAt Go.RowKit
attribute [local go_sem] ext_cell ext_frozen ext_lt ext_lt1 ext_lt2 ext_lt3 ltn2 ltn3 ltn13 lts1 lts2 lts3
set_option maxHeartbeats 1000000 in
theorem implStepLetter (v : Value) (g : Gr) (s : St) (w : World) (hv : GrV 0 w.heap.size w v g) :
    Calls Tryz.prog 73 #[v, .agg #[.int .i64 s.1, .bool s.2]] w fun en w' => en = .returned (.int .i64 (stepLetter g s)) ∧ Below w.heap.size w w' := by
  have hv0 := hv
  obtain ⟨A1, n1, c1, A2, n2, c2, rfl⟩ := hv.shape
  clear hv
  obtain ⟨id, inv⟩ := s
  have hb0 : Below w.heap.size w ((w.alloc (.cells #[.slice A1 n1 c1, .slice A2 n2 c2] 27)).alloc (.cells #[.int .i64 id, .bool inv] 74)) := ((Below.refl _ _).alloc (Nat.le_refl _) _).alloc (by simp) _
  have hc := fun W (hW : Below w.heap.size w W) => implStepEdge _ g (id, inv) W (hv0.keep hW)
  simp only at hc ⊢
  have HC := Lib.hid hc
  clear hc
  cases hs : stepEd g id with
  | none =>
    have hres : stepLetter g (id, inv) = -1 := by rw [stepLetter]; simp [hs]
    have HR := Lib.hid hres
    rw [hs] at HC
    clear hres hs
    go_enter Tryz.func73, Tryz.ntmps73
    go_wp2_with fail
    refine (HC.out _ hb0).mono ?_
    rintro en w1 ⟨e, rfl, -, hb1⟩
    have hb2 := below_trans hb0 hb1
    clear hb0 hb1
    go_wp2_with fail
    go_ret
    exact ⟨ret_int HR.out.symm, hb2.alloc hb2.size _⟩
  | some e =>
    rw [hs] at HC
    have hres : stepLetter g (id, inv) = arcLetter inv e := stepLetter_of (s := (id, inv)) hs
    obtain ⟨hg, hm, -⟩ := stepEd_ok hs
    have hl := (hg.edges e hm).2.2.2
    have HR := Lib.hid hres
    clear hres hs hg hm
    go_enter Tryz.func73, Tryz.ntmps73
    go_wp2_with fail
    refine (HC.out _ hb0).mono ?_
    rintro en w1 ⟨e1, rfl, he1, hb1⟩
    obtain rfl := he1 e rfl
    have b1 := (Blk.new (w.alloc _) _ _ (w.heap.size + 1) (by simp)).keep hb1
    have y1 : w1.cell? ⟨w.heap.size + 1, 1, none⟩ = some _ := b1.cell 1
    have hlt := b1.lt
    have hb2 := below_trans hb0 hb1
    have hb3 := hb2.alloc hb2.size (.cells #[.int .i64 e.1, .int .i64 e.2.1, .int .i64 e.2.2.1, .int .i64 e.2.2.2] 106)
    clear hb0 hb1 he1 b1
    go_wp2_with fail
    refine (reads_any e inv _ hl.1 hl.2).mono ?_
    rintro en w2 ⟨rfl, hb4⟩
    go_wp2_with fail
    go_ret
    exact ⟨ret_int HR.out.symm, below_trans hb3 hb4⟩
theorem flatN_at {xs : List Nat} {t : Nat} {x : Nat} (h : xs[t]? = some x) : (xs.flatMap cN)[t]? = some (.int .i64 (x : Int)) := by
  have := flat_at cN_len h 0 _ rfl
  simpa using this
set_option maxHeartbeats 8000000 in
set_option maxRecDepth 100000 in
theorem along_any (vg va vk : Value) (g : Gr) (a : Au) (k : Wk) (w : World) (hgv : GrV 0 w.heap.size w vg g) (hav : AuV 0 w.heap.size w va a) (hkv : WkV 0 w.heap.size w vk k) :
    Calls Tryz.prog 45 #[vg, va, vk] w fun e w' => ∃ v1 v2, e = .returned (.tuple #[v1, v2, .bool (walkOk g k && auOk a)]) ∧ Own w.heap.size w'.heap.size w' 3 cN 1 v1 (alongS g a k) ∧ Own w.heap.size w'.heap.size w' 3 cI 1 v2 (alongN g a k) ∧ Below w.heap.size w w' := by
  have hgv0 := hgv
  have hav0 := hav
  have hkv0 := hkv
  obtain ⟨A1, c1, A2, c2, rfl, hl1, hm1, hl2, hm2, hC1, -⟩ := hgv.form
  obtain ⟨A3, n3, c3, A4, n4, c4, rfl⟩ := hav.shape
  obtain ⟨A5, c5, rfl, hl5, hm5, hC5⟩ := hkv.form
  have hb0 : Below w.heap.size w (((w.alloc (.cells #[.slice A1 g.vals.length c1, .slice A2 g.edges.length c2] 27)).alloc (.cells #[.int .i64 a.start, .slice A3 n3 c3, .slice A4 n4 c4] 31)).alloc (.cells #[.int .i64 k.1, .slice A5 k.2.length c5] 43)) := (((Below.refl _ _).alloc (Nat.le_refl _) _).alloc (by simp) _).alloc (by simp; omega) _
  obtain ⟨RS, hRS⟩ : ∃ RS, RS = alongS g a k := ⟨_, rfl⟩
  obtain ⟨RN, hRN⟩ : ∃ RN, RN = alongN g a k := ⟨_, rfl⟩
  obtain ⟨ok, hok⟩ : ∃ ok, ok = (walkOk g k && auOk a) := ⟨_, rfl⟩
  rw [← hRS, ← hRN, ← hok]
  have HOK := Lib.hid hok
  have HRS := Lib.hid hRS
  have HRN := Lib.hid hRN
  have HGV := Lib.hid hgv0
  have HAV := Lib.hid hav0
  have HKV := Lib.hid hkv0
  have HC1 := Lib.hid hC1
  have HC5 := Lib.hid hC5
  clear hgv hav hkv hgv0 hav0 hkv0 hC1 hC5 hRS hRN hok
  go_enter Tryz.func45, Tryz.ntmps45
  go_wp2_with fail
  obtain ⟨W0, hW0⟩ : ∃ W0, W0 = (((w.alloc (.cells #[.slice A1 g.vals.length c1, .slice A2 g.edges.length c2] 27)).alloc (.cells #[.int .i64 a.start, .slice A3 n3 c3, .slice A4 n4 c4] 31)).alloc (.cells #[.int .i64 k.1, .slice A5 k.2.length c5] 43)) := ⟨_, rfl⟩
  rw [← hW0] at hb0 ⊢
  have bx : Blk W0 w.heap.size 27 #[.slice A1 g.vals.length c1, .slice A2 g.edges.length c2] := by rw [hW0]; exact ((Blk.new w _ _ w.heap.size rfl).alloc _).alloc _
  have by_ : Blk W0 (w.heap.size + 1) 31 #[.int .i64 a.start, .slice A3 n3 c3, .slice A4 n4 c4] := by rw [hW0]; exact (Blk.new (w.alloc _) _ _ (w.heap.size + 1) (by simp)).alloc _
  have bz : Blk W0 (w.heap.size + 1 + 1) 43 #[.int .i64 k.1, .slice A5 k.2.length c5] := by rw [hW0]; exact Blk.new ((w.alloc _).alloc _) _ _ (w.heap.size + 1 + 1) (by simp)
  have x0 : W0.cell? ⟨w.heap.size, 0, none⟩ = some (.slice A1 g.vals.length c1) := by exact bx.cell 0
  have x1 : W0.cell? ⟨w.heap.size, 1, none⟩ = some (.slice A2 g.edges.length c2) := by exact bx.cell 1
  have y0 : W0.cell? ⟨w.heap.size + 1, 0, none⟩ = some (.int .i64 a.start) := by exact by_.cell 0
  have y1 : W0.cell? ⟨w.heap.size + 1, 1, none⟩ = some (.slice A3 n3 c3) := by exact by_.cell 1
  have y2 : W0.cell? ⟨w.heap.size + 1, 2, none⟩ = some (.slice A4 n4 c4) := by exact by_.cell 2
  have z0 : W0.cell? ⟨w.heap.size + 1 + 1, 0, none⟩ = some (.int .i64 k.1) := by exact bz.cell 0
  have z1 : W0.cell? ⟨w.heap.size + 1 + 1, 1, none⟩ = some (.slice A5 k.2.length c5) := by exact bz.cell 1
  have hs0 : w.heap.size + 1 + 1 + 1 = W0.heap.size := by rw [hW0]; simp
  have l0 : w.heap.size + 1 + 1 < W0.heap.size := by omega
  clear hW0 hs0 bx by_ bz
  have hnod := implNodes _ _ g k W0 (HGV.out.keep hb0) (HKV.out.keep hb0)
  have HNOD := Lib.hid hnod
  clear hnod
  cases hw : walkOk g k with
  | false =>
    rw [hw] at HNOD
    have hfS : RS = [] := by rw [HRS.out, alongS, hw]; rfl
    have hfN : RN = [] := by rw [HRN.out, alongN, hw]; rfl
    have hfK : ok = false := by rw [HOK.out, hw]; rfl
    subst hfS hfN hfK
    refine HNOD.out.mono ?_
    rintro e w1 ⟨v1, rfl, ho1, hb1⟩
    obtain ⟨A6, c6, rfl, -, -, -⟩ := ho1.form cI_len
    clear hw HRS HRN HOK
    go_wp2_with fail
    go_ret3
    exact ⟨_, _, rfl, Own.nil _ _ _ _ _ _, Own.nil _ _ _ _ _ _, below_trans hb0 hb1⟩
  | true =>
    rw [hw] at HNOD
    cases ha : auOk a with
    | false =>
      have hfS : RS = [] := by rw [HRS.out, alongS, hw, ha]; rfl
      have hfN : RN = [] := by rw [HRN.out, alongN, hw, ha]; rfl
      have hfK : ok = false := by rw [HOK.out, hw, ha]; rfl
      subst hfS hfN hfK
      have HA := Lib.hid ha
      clear hw HRS HRN ha HOK
      refine HNOD.out.mono ?_
      rintro e w1 ⟨v1, rfl, ho1, hb1⟩
      obtain ⟨A6, c6, rfl, -, -, -⟩ := ho1.form cI_len
      have hb2 := below_trans hb0 hb1
      have y0 := kcell hb1 y0
      have y1 := kcell hb1 y1
      have y2 := kcell hb1 y2
      have l0 := Nat.lt_of_lt_of_le l0 hb1.size
      go_wp2_with fail
      refine (implValidAutomaton _ a _ (HAV.out.keep hb2)).mono ?_
      rw [HA.out]
      rintro e w2 ⟨rfl, hb3⟩
      go_wp2_with fail
      go_ret3
      exact ⟨_, _, rfl, Own.nil _ _ _ _ _ _, Own.nil _ _ _ _ _ _, below_trans hb2 hb3⟩
    | true =>
      have hfS : RS = setsL g a k (k.2.length + 1) := by rw [HRS.out, alongS, hw, ha]; rfl
      have hfN : RN = nodesL g k := by rw [HRN.out, alongN, hw, ha]; rfl
      have HFS := Lib.hid hfS
      have HFN := Lib.hid hfN
      have HW := Lib.hid hw
      have HA := Lib.hid ha
      have hfK : ok = true := by rw [HOK.out, hw, ha]; rfl
      subst hfK
      clear hw HRS HRN ha hfS hfN HOK
      refine HNOD.out.mono ?_
      rintro e w1 ⟨v1, rfl, ho1, hb1⟩
      rw [nodesOut_yes HW.out] at ho1
      obtain ⟨A6, c6, rfl, hl6, hm6, -⟩ := ho1.form cI_len
      have hb2 := below_trans hb0 hb1
      have x0 := kcell hb1 x0
      have x1 := kcell hb1 x1
      have y0 := kcell hb1 y0
      have y1 := kcell hb1 y1
      have y2 := kcell hb1 y2
      have z0 := kcell hb1 z0
      have z1 := kcell hb1 z1
      have l0 := Nat.lt_of_lt_of_le l0 hb1.size
      have HO1 := Lib.hid ho1
      clear ho1 HNOD
      rw [nodesL_len] at hl6 ⊢
      go_wp2_with fail
      refine (implValidAutomaton _ a _ (HAV.out.keep hb2)).mono ?_
      rw [HA.out]
      rintro e w2 ⟨rfl, hb3⟩
      have hbw := below_trans hb2 hb3
      have x0 := kcell hb3 x0
      have x1 := kcell hb3 x1
      have y0 := kcell hb3 y0
      have y1 := kcell hb3 y1
      have y2 := kcell hb3 y2
      have z0 := kcell hb3 z0
      have z1 := kcell hb3 z1
      have l0 := Nat.lt_of_lt_of_le l0 hb3.size
      obtain ⟨⟨hn1, hn12⟩, ⟨hst0, hst1⟩, -, -⟩ := auOk_iff.1 HA.out
      obtain ⟨s, hs⟩ : ∃ s : Nat, a.start = (s : Int) := ⟨a.start.toNat, by omega⟩
      rw [hs] at y0 HAV
      have hsn : s < a.accept.length := by omega
      have e1 := shl_bit (s := s) (by omega)
      have hS1 : setsL g a k (0 + 1) = [bit s] := by simp [setsL, setAt, hs]
      have HS1 := Lib.hid hS1
      have hr1 := ownsRow_below (HO1.out.1) hb3 (Nat.le_refl _)
      rw [nodesL_len] at hr1
      obtain ⟨gN, cN', hvN, -, hgN, -, -⟩ := own_some hr1 (by omega)
      injection hvN with e2 _ e3
      subst e2
      subst e3
      have HR1 := Lib.hid hr1
      have HB3 := Lib.hid hb3
      have hs3 := hb3.size
      have hs2 := hb2.size
      have hg3 := (walkOk_parts HW.out).2.2.1
      have HGO := Lib.hid (walkOk_parts HW.out).1
      clear hs hst0 hst1 hS1 hr1 hb3 hb1 hb0 HO1
      go_wp2_with fail
      go_loopw [11, 34] (fun ss ii wr => ∃ i : Nat, i ≤ k.2.length ∧ ii = .int .i64 (i : Int) ∧ wr.ownsRow w2.heap.size 3 1 ss (setsL g a k (i + 1)).length ((setsL g a k (i + 1)).flatMap cN) ∧ Below w2.heap.size w2 wr) (fun _ ii _ => k.2.length - (intOf ii).toNat)
      case atStart => exact ⟨0, Nat.zero_le _, rfl, by rw [HS1.out]; exact World.ownsRow_lit w2 #[.int .i64 (bit s : Int)] 1 (Nat.le_refl _) (by decide) rfl, (Below.refl _ _).alloc (Nat.le_refl _) _⟩
      case round =>
        clear HS1 e1
        obtain ⟨i, hi, rfl, hrow, hbel⟩ := hrel
        have hbw2 := below_trans hbw hbel
        have x0 := kcell hbel x0
        have x1 := kcell hbel x1
        have y0 := kcell hbel y0
        have y1 := kcell hbel y1
        have y2 := kcell hbel y2
        have z0 := kcell hbel z0
        have z1 := kcell hbel z1
        have l0 := Nat.lt_of_lt_of_le l0 hbel.size
        have hsz := hbel.size
        have HROW := Lib.hid hrow
        have HBW2 := Lib.hid hbw2
        clear hrow hbw2
        by_cases hlt : i < k.2.length
        · obtain ⟨st, e, hst, he, ht, hl, hsl, hl6⟩ := walk_step HW.out hlt
          obtain ⟨sid, sinv⟩ := st
          obtain ⟨b5, o5, rfl, hb5, p0, p1⟩ := HC5.out.st hst
          have p0 := kcell hbel (kcell hbw p0)
          have p1 := kcell hbel (kcell hbw p1)
          obtain ⟨hna, hnl⟩ := nodeAt_lt HW.out hi
          have q0 := kcell hbel ((World.ownsRow.cellAt HR1.out i (by omega)).trans (flatI_at hna))
          have hvi : g.vals[nodeAt g k i]? = some g.vals[nodeAt g k i] := List.getElem?_eq_getElem hnl
          have hvr := HGO.out.vals _ (List.getElem_mem hnl)
          generalize g.vals[nodeAt g k i] = vx at hvi hvr
          obtain ⟨vx, rfl⟩ := Int.eq_ofNat_of_zero_le hvr.1
          have hva := valAt_of hvi
          rw [Int.toNat_natCast] at hva
          obtain ⟨b1, o1, rfl, hb1, d1⟩ := HC1.out.int hvi
          have d1 := kcell hbel (kcell hbw d1)
          have hrow := HROW.out
          rw [setsL_len] at hrow
          obtain ⟨gS, cS, rfl, hgS, hgS2, -, -⟩ := own_some hrow (by omega)
          have s0 := (World.ownsRow.cellAt hrow i (by omega)).trans (flatN_at (setsL_at (g := g) (a := a) (k := k) (show i < i + 1 by omega)))
          have HSA := Lib.hid (show setAt g a k (i + 1) = aft a (setAt g a k i) vx (letAt g k i) by rw [← hva]; rfl)
          have HSN := Lib.hid (setsL_snoc g a k (i + 1))
          have hsla := setAt_lt HA.out k i (g := g)
          have hsla4 := lt12 HA.out hsla
          have hsal := setsL_len g a k (i + 1)
          have HLET := Lib.hid (show ∀ W, Below w.heap.size w W → Calls Tryz.prog 73 #[.agg #[.slice (some ⟨b1, o1, none⟩) g.vals.length c1, .slice A2 g.edges.length c2], .agg #[.int .i64 sid, .bool sinv]] W fun e w' => e = .returned (.int .i64 (letAt g k i : Int)) ∧ Below W.heap.size W w' from fun W hW => by
            have h := implStepLetter _ g (sid, sinv) W (HGV.out.keep hW)
            rwa [hsl] at h)
          have HSL := Lib.hid hsla
          generalize letAt g k i = LI at *
          generalize setAt g a k i = SI at *
          generalize nodeAt g k i = NI at *
          generalize setsL g a k (i + 1) = SX at *
          have hki : (i : Int) < (k.2.length : Int) := by omega
          have hni : (NI : Int) < (g.vals.length : Int) := by omega
          have hki1 : (i : Int) < ((k.2.length : Int) + 1) := by omega
          clear hst he ht hl hsl hna hvi hva hrow hsla
          go_wp2_with fail
          have hbA : Below wr.heap.size wr (wr.alloc (.cells #[.int .i64 sid, .bool sinv] 74)) := (Below.refl _ _).alloc (Nat.le_refl _) _
          have t0 : (wr.alloc (.cells #[.int .i64 sid, .bool sinv] 74)).cell? ⟨wr.heap.size, 0, none⟩ = some (.int .i64 sid) := by simp
          have t1 : (wr.alloc (.cells #[.int .i64 sid, .bool sinv] 74)).cell? ⟨wr.heap.size, 1, none⟩ = some (.bool sinv) := by simp
          have x0 := kcell hbA x0
          have x1 := kcell hbA x1
          have y0 := kcell hbA y0
          have y1 := kcell hbA y1
          have y2 := kcell hbA y2
          have q0 := kcell hbA q0
          have d1 := kcell hbA d1
          have s0 := kcell hbA s0
          have HRA := Lib.hid (ownsRow_below HROW.out hbA (Nat.le_refl _))
          have hsA := hbA.size
          generalize wr.alloc (.cells #[.int .i64 sid, .bool sinv] 74) = wA at *
          have hii1 : (i : Int) < (i : Int) + 1 := by omega
          have hbAd := below_trans hbA ((Below.refl wA.heap.size wA).drew)
          refine F_start 19 (fun w' => w'.cell? ⟨w.heap.size, 0, none⟩ = some (.slice (some ⟨b1, o1, none⟩) g.vals.length c1) ∧ w'.cell? ⟨w.heap.size, 1, none⟩ = some (.slice A2 g.edges.length c2) ∧ w'.cell? ⟨w.heap.size + 1, 0, none⟩ = some (.int .i64 (s : Int)) ∧ w'.cell? ⟨w.heap.size + 1, 1, none⟩ = some (.slice A3 n3 c3) ∧ w'.cell? ⟨w.heap.size + 1, 2, none⟩ = some (.slice A4 n4 c4) ∧ w'.cell? ⟨gN, i, none⟩ = some (.int .i64 (NI : Int)) ∧ w'.cell? ⟨b1, o1 + NI, none⟩ = some (.int .i64 (vx : Int)) ∧ w'.cell? ⟨gS, i, none⟩ = some (.int .i64 (SI : Int)) ∧ w'.cell? ⟨wr.heap.size, 0, none⟩ = some (.int .i64 sid) ∧ w'.cell? ⟨wr.heap.size, 1, none⟩ = some (.bool sinv)) (by kernel_rfl) (by exact ⟨x0, x1, y0, y1, y2, q0, d1, s0, t0, t1⟩) (fun hS inv => ?_)
          refine F_take (i := 0) (v := ?_) rfl (by kernel_rfl) (by kernel_rfl) (by kernel_rfl) (fun _ _ _ h => h) inv (Or.inl ⟨by rfl, ?_⟩) (by assumption) (fun invn => ?_)
          rotate_left
          · (intro w hSw; (try dsimp only at hSw); go_simp; try with_reducible rfl)
          try simp only [List.getElem_toArray, List.getElem_cons_zero, List.getElem_cons_succ, Act.put, List.setIfInBounds_toArray, List.set_cons_zero, List.set_cons_succ]
          clear inv
          have inv := invn
          clear invn
          refine F_take (i := 1) (v := ?_) rfl (by kernel_rfl) (by kernel_rfl) (by kernel_rfl) (fun _ _ _ h => h) inv (Or.inl ⟨by rfl, ?_⟩) (by assumption) (fun invn => ?_)
          rotate_left
          · (intro w hSw; (try dsimp only at hSw); go_simp; try with_reducible rfl)
          try simp only [List.getElem_toArray, List.getElem_cons_zero, List.getElem_cons_succ, Act.put, List.setIfInBounds_toArray, List.set_cons_zero, List.set_cons_succ]
          clear inv
          have inv := invn
          clear invn
          refine F_take (i := 2) (v := ?_) rfl (by kernel_rfl) (by kernel_rfl) (by kernel_rfl) (fun _ _ _ h => h) inv (Or.inl ⟨by rfl, ?_⟩) (by assumption) (fun invn => ?_)
          rotate_left
          · (intro w hSw; (try dsimp only at hSw); go_simp; try with_reducible rfl)
          try simp only [List.getElem_toArray, List.getElem_cons_zero, List.getElem_cons_succ, Act.put, List.setIfInBounds_toArray, List.set_cons_zero, List.set_cons_succ]
          clear inv
          have inv := invn
          clear invn
          refine F_take (i := 3) (v := ?_) rfl (by kernel_rfl) (by kernel_rfl) (by kernel_rfl) (fun _ _ _ h => h) inv (Or.inl ⟨by rfl, ?_⟩) (by assumption) (fun invn => ?_)
          rotate_left
          · (intro w hSw; (try dsimp only at hSw); go_simp; try with_reducible rfl)
          try simp only [List.getElem_toArray, List.getElem_cons_zero, List.getElem_cons_succ, Act.put, List.setIfInBounds_toArray, List.set_cons_zero, List.set_cons_succ]
          clear inv
          have inv := invn
          clear invn
          refine F_take (i := 4) (v := ?_) rfl (by kernel_rfl) (by kernel_rfl) (by kernel_rfl) (fun _ _ _ h => h) inv (Or.inl ⟨by rfl, ?_⟩) (by assumption) (fun invn => ?_)
          rotate_left
          · (intro w hSw; (try dsimp only at hSw); go_simp; try with_reducible rfl)
          try simp only [List.getElem_toArray, List.getElem_cons_zero, List.getElem_cons_succ, Act.put, List.setIfInBounds_toArray, List.set_cons_zero, List.set_cons_succ]
          clear inv
          have inv := invn
          clear invn
          refine F_take (i := 5) (v := ?_) rfl (by kernel_rfl) (by kernel_rfl) (by kernel_rfl) (fun _ _ _ h => h) inv (Or.inl ⟨by rfl, ?_⟩) (by assumption) (fun invn => ?_)
          rotate_left
          · (intro w hSw; (try dsimp only at hSw); go_simp; try with_reducible rfl)
          try simp only [List.getElem_toArray, List.getElem_cons_zero, List.getElem_cons_succ, Act.put, List.setIfInBounds_toArray, List.set_cons_zero, List.set_cons_succ]
          clear inv
          have inv := invn
          clear invn
          refine F_take (i := 6) (v := ?_) rfl (by kernel_rfl) (by kernel_rfl) (by kernel_rfl) (fun _ _ _ h => h) inv (Or.inl ⟨by rfl, ?_⟩) (by assumption) (fun invn => ?_)
          rotate_left
          · (intro w hSw; (try dsimp only at hSw); go_simp; try with_reducible rfl)
          try simp only [List.getElem_toArray, List.getElem_cons_zero, List.getElem_cons_succ, Act.put, List.setIfInBounds_toArray, List.set_cons_zero, List.set_cons_succ]
          clear inv
          have inv := invn
          clear invn
          refine F_take (i := 7) (v := ?_) rfl (by kernel_rfl) (by kernel_rfl) (by kernel_rfl) (fun _ _ _ h => h) inv (Or.inl ⟨by rfl, ?_⟩) (by assumption) (fun invn => ?_)
          rotate_left
          · (intro w hSw; (try dsimp only at hSw); go_simp; try with_reducible rfl)
          try simp only [List.getElem_toArray, List.getElem_cons_zero, List.getElem_cons_succ, Act.put, List.setIfInBounds_toArray, List.set_cons_zero, List.set_cons_succ]
          clear inv
          have inv := invn
          clear invn
          refine F_take (i := 8) (v := ?_) rfl (by kernel_rfl) (by kernel_rfl) (by kernel_rfl) (fun _ _ _ h => h) inv (Or.inl ⟨by rfl, ?_⟩) (by assumption) (fun invn => ?_)
          rotate_left
          · (intro w hSw; (try dsimp only at hSw); go_simp; try with_reducible rfl)
          try simp only [List.getElem_toArray, List.getElem_cons_zero, List.getElem_cons_succ, Act.put, List.setIfInBounds_toArray, List.set_cons_zero, List.set_cons_succ]
          clear inv
          have inv := invn
          clear invn
          refine F_take (i := 9) (v := ?_) rfl (by kernel_rfl) (by kernel_rfl) (by kernel_rfl) (fun _ _ _ h => h) inv (Or.inl ⟨by rfl, ?_⟩) (by assumption) (fun invn => ?_)
          rotate_left
          · (intro w hSw; (try dsimp only at hSw); go_simp; try with_reducible rfl)
          try simp only [List.getElem_toArray, List.getElem_cons_zero, List.getElem_cons_succ, Act.put, List.setIfInBounds_toArray, List.set_cons_zero, List.set_cons_succ]
          clear inv
          have inv := invn
          clear invn
          refine F_take (i := 10) (v := ?_) rfl (by kernel_rfl) (by kernel_rfl) (by kernel_rfl) (fun _ _ _ h => h) inv (Or.inl ⟨by rfl, ?_⟩) (by assumption) (fun invn => ?_)
          rotate_left
          · (intro w hSw; (try dsimp only at hSw); go_simp; try with_reducible rfl)
          try simp only [List.getElem_toArray, List.getElem_cons_zero, List.getElem_cons_succ, Act.put, List.setIfInBounds_toArray, List.set_cons_zero, List.set_cons_succ]
          clear inv
          have inv := invn
          clear invn
          refine F_take (i := 11) (v := ?_) rfl (by kernel_rfl) (by kernel_rfl) (by kernel_rfl) (fun _ _ _ h => h) inv (Or.inl ⟨by rfl, ?_⟩) (by assumption) (fun invn => ?_)
          rotate_left
          · (intro w hSw; (try dsimp only at hSw); go_simp; try with_reducible rfl)
          try simp only [List.getElem_toArray, List.getElem_cons_zero, List.getElem_cons_succ, Act.put, List.setIfInBounds_toArray, List.set_cons_zero, List.set_cons_succ]
          clear inv
          have inv := invn
          clear invn
          refine F_take (i := 12) (v := ?_) rfl (by kernel_rfl) (by kernel_rfl) (by kernel_rfl) (fun _ _ _ h => h) inv (Or.inl ⟨by rfl, ?_⟩) (by assumption) (fun invn => ?_)
          rotate_left
          · (intro w hSw; (try dsimp only at hSw); go_simp; try with_reducible rfl)
          try simp only [List.getElem_toArray, List.getElem_cons_zero, List.getElem_cons_succ, Act.put, List.setIfInBounds_toArray, List.set_cons_zero, List.set_cons_succ]
          clear inv
          have inv := invn
          clear invn
          refine F_take (i := 13) (v := ?_) rfl (by kernel_rfl) (by kernel_rfl) (by kernel_rfl) (fun _ _ _ h => h) inv (Or.inl ⟨by rfl, ?_⟩) (by assumption) (fun invn => ?_)
          rotate_left
          · (intro w hSw; (try dsimp only at hSw); go_simp; try with_reducible rfl)
          try simp only [List.getElem_toArray, List.getElem_cons_zero, List.getElem_cons_succ, Act.put, List.setIfInBounds_toArray, List.set_cons_zero, List.set_cons_succ]
          clear inv
          have inv := invn
          clear invn
          refine F_take (i := 14) (v := ?_) rfl (by kernel_rfl) (by kernel_rfl) (by kernel_rfl) (fun _ _ _ h => h) inv (Or.inl ⟨by rfl, ?_⟩) (by assumption) (fun invn => ?_)
          rotate_left
          · (intro w hSw; (try dsimp only at hSw); go_simp; try with_reducible rfl)
          try simp only [List.getElem_toArray, List.getElem_cons_zero, List.getElem_cons_succ, Act.put, List.setIfInBounds_toArray, List.set_cons_zero, List.set_cons_succ]
          clear inv
          have inv := invn
          clear invn
          refine F_take (i := 15) (v := ?_) rfl (by kernel_rfl) (by kernel_rfl) (by kernel_rfl) (fun _ _ _ h => h) inv (Or.inl ⟨by rfl, ?_⟩) (by assumption) (fun invn => ?_)
          rotate_left
          · (intro w hSw; (try dsimp only at hSw); go_simp; try with_reducible rfl)
          try simp only [List.getElem_toArray, List.getElem_cons_zero, List.getElem_cons_succ, Act.put, List.setIfInBounds_toArray, List.set_cons_zero, List.set_cons_succ]
          clear inv
          have inv := invn
          clear invn
          refine F_one (i := 16) (by kernel_rfl) rfl rfl (by omega) inv (fun K hK => ?_)
          try simp only [List.getElem_toArray, List.getElem_cons_zero, List.getElem_cons_succ]
          go_simp
          refine (HLET.out _ (below_trans HBW2.out hbAd)).mono ?_
          rintro e wL ⟨rfl, hbL⟩
          refine hK.out _ _ (kB10 hbL hS) (fun hSn invn => ?_)
          try simp only [List.getElem_toArray, List.getElem_cons_zero, List.getElem_cons_succ, Act.put, List.setIfInBounds_toArray, List.set_cons_zero, List.set_cons_succ]
          clear hK K inv hS
          have inv := invn
          have hS := hSn
          clear invn hSn
          refine F_one (i := 17) (by kernel_rfl) rfl rfl (by omega) inv (fun K hK => ?_)
          try simp only [List.getElem_toArray, List.getElem_cons_zero, List.getElem_cons_succ]
          go_simp
          refine (after_any _ a SI vx LI _ (HAV.out.keep (below_trans HBW2.out (below_trans hbAd hbL))) HA.out HSL.out (by omega) (by omega)).mono ?_
          rintro e wT ⟨rfl, hbT⟩
          have hbAT := below_trans ((Below.refl wA.heap.size wA).drew) (below_trans hbL hbT)
          have HRT := Lib.hid (ownsRow_below HRA.out hbAT (Nat.le_refl _))
          have hsT := hbAT.size
          refine hK.out _ _ (kB10 hbT hS) (fun hSn invn => ?_)
          try simp only [List.getElem_toArray, List.getElem_cons_zero, List.getElem_cons_succ, Act.put, List.setIfInBounds_toArray, List.set_cons_zero, List.set_cons_succ]
          clear hK K inv hS
          have inv := invn
          have hS := hSn
          clear invn hSn
          refine F_one (i := 18) (by kernel_rfl) rfl rfl (by omega) inv (fun K hK => ?_)
          try simp only [List.getElem_toArray, List.getElem_cons_zero, List.getElem_cons_succ]
          go_simp
          refine hK.out _ _ (kA10 _ hS) (fun hSn invn => ?_)
          try simp only [List.getElem_toArray, List.getElem_cons_zero, List.getElem_cons_succ, Act.put, List.setIfInBounds_toArray, List.set_cons_zero, List.set_cons_succ]
          clear hK K inv hS
          have inv := invn
          have hS := hSn
          clear invn hSn
          refine F_tail (i := 19) (by kernel_rfl) rfl rfl (by omega) (fun K hK => ?_)
          try simp only [List.getElem_toArray, List.getElem_cons_zero, List.getElem_cons_succ]
          refine op_append1 cN elInt rfl _ _ (by rfl) w2.heap.size _ SX (aft a SI vx LI) 1 _ (by rfl) (by have h := HRT.out.alloc (.cells #[.int .i64 (aft a SI vx LI : Int)] 3); rw [hsal] at h ⊢; exact h) (by first | rfl | simp) (heap_alloc_new _ _) rfl (cN_one _) (by omega) (by omega) (by simp; omega) ?_
          intro g2 cp2 w3 hown3 hgr3 hat3 hlt3
          have HW3 := Lib.hid hown3
          have HG3 := Lib.hid hgr3
          clear hown3 hgr3 hat3
          refine hK.out _ _ ?_
          try simp only [List.getElem_toArray, List.getElem_cons_zero, List.getElem_cons_succ, Act.put, List.setIfInBounds_toArray, List.set_cons_zero, List.set_cons_succ]
          clear hK K
          try clear inv hS
          refine F_last (i := 20) (by kernel_rfl) rfl rfl (by omega) (by kernel_rfl) (fun K hK => ?_)
          go_simp
          refine hK _ _ ?_
          clear hK K
          go_wp2_with fail
          go_roundw
          case rel => exact ⟨i + 1, by omega, by go_num, by rw [HSN.out, HSA.out]; have h := HW3.out; rw [hsal] at h; exact h, (((hbel.trans (hbA.mono hsz)).trans (hbAT.mono (by omega))).alloc (by omega) _).trans (own_below (HRT.out.alloc _) (by simp; omega) HG3.out)⟩
          case measure => simp [intOf]; omega
        · obtain rfl : i = k.2.length := by omega
          have hrow := HROW.out
          rw [setsL_len] at hrow
          obtain ⟨gS, cS, rfl, hgS, hgS2, -, -⟩ := own_some hrow (by omega)
          have hoS := Own.of_row (xs := setsL g a k (k.2.length + 1)) (ownsRow_mono (b := w.heap.size) HROW.out (by omega)) (by rw [setsL_len]) rfl
          rw [← HFS.out] at hoS
          have hoN := Own.of_row (xs := nodesL g k) (ownsRow_mono (b := w.heap.size) (ownsRow_below HR1.out hbel (Nat.le_refl _)) (by omega)) (nodesL_len g k) rfl
          rw [← HFN.out] at hoN
          have HOS := Lib.hid hoS
          have HON := Lib.hid hoN
          clear hrow hoS hoN
          go_wp2_with fail
          go_ret3
          exact ⟨_, _, rfl, HOS.out, HON.out, HBW2.out⟩
set_option maxHeartbeats 4000000 in
set_option maxRecDepth 100000 in
theorem implMatchesWalk (vg va vk : Value) (g : Gr) (a : Au) (k : Wk) (w : World) (hgv : GrV 0 w.heap.size w vg g) (hav : AuV 0 w.heap.size w va a) (hkv : WkV 0 w.heap.size w vk k) :
    Calls Tryz.prog 20 #[vg, va, vk] w fun e w' => e = .returned (.bool (matchB g a k)) ∧ Below w.heap.size w w' := by
  have hgv0 := hgv
  have hav0 := hav
  have hkv0 := hkv
  obtain ⟨A1, c1, A2, c2, rfl, hl1, hm1, hl2, hm2, hC1, -⟩ := hgv.form
  obtain ⟨A3, n3, c3, A4, n4, c4, rfl⟩ := hav.shape
  obtain ⟨A5, n5, c5, rfl⟩ := hkv.shape
  have hb0 : Below w.heap.size w (((w.alloc (.cells #[.slice A1 g.vals.length c1, .slice A2 g.edges.length c2] 27)).alloc (.cells #[.int .i64 a.start, .slice A3 n3 c3, .slice A4 n4 c4] 31)).alloc (.cells #[.int .i64 k.1, .slice A5 n5 c5] 43)) := (((Below.refl _ _).alloc (Nat.le_refl _) _).alloc (by simp) _).alloc (by simp; omega) _
  have hal := along_any _ _ _ g a k _ (hgv0.keep hb0) (hav0.keep hb0) (hkv0.keep hb0)
  obtain ⟨R, hR⟩ : ∃ R, R = matchB g a k := ⟨_, rfl⟩
  rw [← hR]
  have HAL := Lib.hid hal
  have HR := Lib.hid hR
  have HGV := Lib.hid hgv0
  have HAV := Lib.hid hav0
  have HC1 := Lib.hid hC1
  clear hgv hav hkv hgv0 hav0 hkv0 hC1 hR hal
  cases hok : walkOk g k && auOk a with
  | false =>
    rw [hok] at HAL
    have hfin : R = false := by rw [HR.out, matchB, hok]; rfl
    subst hfin
    clear HR hok
    go_enter Tryz.func20, Tryz.ntmps20
    go_wp2_with fail
    refine HAL.out.mono ?_
    rintro e w1 ⟨v1, v2, rfl, ho1, ho2, hb1⟩
    obtain ⟨A6, n6, c6, rfl⟩ := ho1.shape
    obtain ⟨A7, n7, c7, rfl⟩ := ho2.shape
    go_wp2_with fail
    refine wp_region_ext_lit (by kernel_rfl) (by kernel_rfl) ?_
    repeat (go_big_quiet_step (fail))
    refine wpQuiet_nil ?_
    intro _ hw'
    obtain ⟨u2, hw''⟩ := hw'
    subst hw''
    go_wp2_with fail
    go_ret
    exact ⟨rfl, below_trans (below_trans hb0 hb1) (ext_below _ _)⟩
  | true =>
    rw [hok] at HAL
    have hfin : R = acc a (setAt g a k k.2.length) (valAt g (nodeAt g k k.2.length)) := by rw [HR.out, matchB, hok]; simp
    have hS : alongS g a k = setsL g a k (k.2.length + 1) := by rw [alongS, hok]; rfl
    have hN : alongN g a k = nodesL g k := by rw [alongN, hok]; rfl
    rw [hS, hN] at HAL
    simp only [Bool.and_eq_true] at hok
    obtain ⟨hw, ha⟩ := hok
    have hl60 := (walkOk_parts hw).2.2.1
    have hgo := (walkOk_parts hw).1
    obtain ⟨hna, hnl⟩ := nodeAt_lt hw (Nat.le_refl _)
    have hvi : g.vals[nodeAt g k k.2.length]? = some g.vals[nodeAt g k k.2.length] := List.getElem?_eq_getElem hnl
    have hvr := hgo.vals _ (List.getElem_mem hnl)
    generalize g.vals[nodeAt g k k.2.length] = vx at hvi hvr
    obtain ⟨vx, rfl⟩ := Int.eq_ofNat_of_zero_le hvr.1
    have hva := valAt_of hvi
    rw [Int.toNat_natCast] at hva
    rw [hva] at hfin
    obtain ⟨b1, o1, rfl, hb1w, d1⟩ := HC1.out.int hvi
    have hsla := setAt_lt ha k k.2.length (g := g)
    have hs1 := setsL_at (g := g) (a := a) (k := k) (show k.2.length < k.2.length + 1 by omega)
    generalize setAt g a k k.2.length = SI at *
    generalize nodeAt g k k.2.length = NI at *
    have hni : (NI : Int) < (g.vals.length : Int) := by omega
    have HF := Lib.hid hfin
    have HW := Lib.hid hw
    have HA := Lib.hid ha
    have HS1 := Lib.hid hs1
    have HNA := Lib.hid hna
    have HSL := Lib.hid hsla
    clear HR hfin hS hN hw ha hvi hva hgo hs1 hna hsla
    go_enter Tryz.func20, Tryz.ntmps20
    go_wp2_with fail
    obtain ⟨W0, hW0⟩ : ∃ W0, W0 = (((w.alloc (.cells #[.slice (some ⟨b1, o1, none⟩) g.vals.length c1, .slice A2 g.edges.length c2] 27)).alloc (.cells #[.int .i64 a.start, .slice A3 n3 c3, .slice A4 n4 c4] 31)).alloc (.cells #[.int .i64 k.1, .slice A5 n5 c5] 43)) := ⟨_, rfl⟩
    rw [← hW0] at hb0 HAL ⊢
    have bx : Blk W0 w.heap.size 27 #[.slice (some ⟨b1, o1, none⟩) g.vals.length c1, .slice A2 g.edges.length c2] := by rw [hW0]; exact ((Blk.new w _ _ w.heap.size rfl).alloc _).alloc _
    have by_ : Blk W0 (w.heap.size + 1) 31 #[.int .i64 a.start, .slice A3 n3 c3, .slice A4 n4 c4] := by rw [hW0]; exact (Blk.new (w.alloc _) _ _ (w.heap.size + 1) (by simp)).alloc _
    have x0 : W0.cell? ⟨w.heap.size, 0, none⟩ = some (.slice (some ⟨b1, o1, none⟩) g.vals.length c1) := by exact bx.cell 0
    have x1 : W0.cell? ⟨w.heap.size, 1, none⟩ = some (.slice A2 g.edges.length c2) := by exact bx.cell 1
    have y0 : W0.cell? ⟨w.heap.size + 1, 0, none⟩ = some (.int .i64 a.start) := by exact by_.cell 0
    have y1 : W0.cell? ⟨w.heap.size + 1, 1, none⟩ = some (.slice A3 n3 c3) := by exact by_.cell 1
    have y2 : W0.cell? ⟨w.heap.size + 1, 2, none⟩ = some (.slice A4 n4 c4) := by exact by_.cell 2
    have l0 := by_.lt
    have l00 := bx.lt
    have d1 := kcell hb0 d1
    have l1 : b1 < W0.heap.size := Nat.lt_of_lt_of_le hb1w hb0.size
    clear hW0 bx by_
    refine HAL.out.mono ?_
    rintro e w1 ⟨v1, v2, rfl, ho1, ho2, hb1⟩
    have x0 := kcell hb1 x0
    have x1 := kcell hb1 x1
    have y0 := kcell hb1 y0
    have y1 := kcell hb1 y1
    have y2 := kcell hb1 y2
    have d1 := kcell hb1 d1
    have hs1 := hb1.size
    have l0 := Nat.lt_of_lt_of_le l0 hs1
    have l00 := Nat.lt_of_lt_of_le l00 hs1
    have l1 := Nat.lt_of_lt_of_le l1 hs1
    have r1 := ho1.1
    have r2 := ho2.1
    rw [setsL_len] at r1
    rw [nodesL_len] at r2
    obtain ⟨gS, cS, rfl, -, hgS, -, -⟩ := own_some r1 (by omega)
    obtain ⟨gN, cN', rfl, -, hgN, -, -⟩ := own_some r2 (by omega)
    have s0 := (World.ownsRow.cellAt r1 k.2.length (by omega)).trans (flatN_at HS1.out)
    have q0 := (World.ownsRow.cellAt r2 k.2.length (by omega)).trans (flatI_at HNA.out)
    have hbw := below_trans hb0 hb1
    have HBW := Lib.hid hbw
    have m1 : ((k.2.length : Int) + 1) - 1 = (k.2.length : Int) := by omega
    clear r1 r2 ho1 ho2 hb0 hb1 hbw
    go_wp2_with fail
    refine wp_region_ext_lit (by kernel_rfl) (by kernel_rfl) ?_
    repeat (go_big_quiet_step ((go_at_call 46; exact Calls.ext_of (acceptsAt_any _ a SI vx _ (HAV.out.keep (below_trans HBW.out (ext_below _ _))) HA.out HSL.out (by omega)))))
    refine wpQuiet_nil ?_
    intro _ hw'
    obtain ⟨u2, hw''⟩ := hw'
    subst hw''
    go_wp2_with fail
    go_ret
    exact ⟨by rw [HF.out]; rfl, below_trans HBW.out (ext_below _ _)⟩
end Go.Proofs.YtallglnmeeahiaaGreat
namespace Go.Proofs.YtallglnmeeahiaaGreat
set_option linter.unusedVariables false
set_option linter.unusedSimpArgs false
open Go.ChangeShapes Go.WideShapes Go.ChangeAt Go.RowKit
attribute [local go_sem] ext_cell ext_frozen ext_lt ext_lt1 ext_lt2 ext_lt3 ltn2 ltn3 ltn13 lts1 lts2 lts3
def stL (g : Gr) (a : Au) (k : Wk) (i : Nat) : List (List Int) := (List.range i).map fun (j : Nat) => memI 12 (setAt g a k j)
def statesL (g : Gr) (a : Au) (k : Wk) : List (List Int) := if (walkOk g k && auOk a) = true then stL g a k (k.2.length + 1) else []
theorem stL_len (g : Gr) (a : Au) (k : Wk) (i : Nat) : (stL g a k i).length = i := by simp [stL]
theorem stL_snoc (g : Gr) (a : Au) (k : Wk) (i : Nat) : stL g a k (i + 1) = stL g a k i ++ [memI 12 (setAt g a k i)] := by simp [stL, List.range_succ]
theorem own_nat {lo hi : Nat} {w : World} {e : TypeId} {v : Value} {xs : List Nat} (h : Own lo hi w e cN 1 v xs) : Own lo hi w e cI 1 v (xs.map fun (t : Nat) => (t : Int)) := by
  obtain ⟨h1, h2⟩ := h
  refine ⟨?_, h2⟩
  have e1 : ∀ xs : List Nat, (xs.map fun (t : Nat) => (t : Int)).flatMap cI = xs.flatMap cN := fun xs => by
    rw [List.flatMap_map]; rfl
  rw [e1, List.length_map]
  exact h1
theorem blks_push {P : Nat → Prop} {v v' u : Value} {us : List Value} (h : ∀ b ∈ blks (v :: us), P b) (hv : ∀ b, v'.ownBlock = some b → P b) (hu : ∀ b, u.ownBlock = some b → P b) : ∀ b ∈ blks (v' :: (us ++ [u])), P b := by
  intro b hb
  obtain ⟨i, x, hi, hx⟩ := mem_blks.1 hb
  cases i with
  | zero =>
    simp only [List.getElem?_cons_zero, Option.some.injEq] at hi
    subst hi
    exact hv b hx
  | succ i =>
    rw [List.getElem?_cons_succ] at hi
    rcases Nat.lt_or_ge i us.length with hl | hge
    · rw [List.getElem?_append_left hl] at hi
      exact h b (mem_blks.2 ⟨i + 1, x, by simpa using hi, hx⟩)
    · have hi2 := (List.getElem?_eq_some_iff.1 hi).1
      simp only [List.length_append, List.length_singleton] at hi2
      obtain rfl : i = us.length := by omega
      have e1 : u = x := by simpa using hi
      subst e1
      exact hu b hx
theorem SlI.natI {lo hi : Nat} {w : World} {A : Option Addr} {n c : Nat} {xs : List Nat} (h : SlI lo hi w cN 1 (.slice A n c) xs) {i : Nat} {x : Nat} (hx : xs[i]? = some x) :
    ∃ b o, A = some ⟨b, o, none⟩ ∧ (lo ≤ b ∧ b < hi) ∧ w.cell? ⟨b, o + i, none⟩ = some (.int .i64 (x : Int)) := by
  obtain ⟨A', c', hv, _, _, h3⟩ := h
  injection hv with h1 _ _
  subst h1
  obtain ⟨b, o, e, g1, g2, hc⟩ := h3 i x hx
  exact ⟨b, o, e, ⟨g1, g2⟩, by simpa using hc 0 _ rfl⟩
theorem blks_one {g b n c : Nat} (h : b ∈ blks [Value.slice (some ⟨g, 0, none⟩) n c]) : b = g := by
  obtain ⟨i, u, hi, hu⟩ := mem_blks.1 h
  cases i with
  | zero =>
    simp only [List.getElem?_cons_zero, Option.some.injEq] at hi
    subst hi
    injection hu with hu
    exact hu.symm
  | succ i => simp at hi
theorem memI_stop {m : Nat} (h : m < 4096) : memI 30 m = memI 12 m := by
  unfold memI
  rw [mem_stop (i := 12) (n := 30) (by omega) (by omega)]
theorem members_I (m : Nat) (w : World) (hm : m < 4096) :
    Calls Tryz.prog 47 #[.int .i64 (m : Int)] w fun e w' => ∃ v', e = .returned v' ∧ Own w.heap.size w'.heap.size w' 3 cI 1 v' (memI 12 m) ∧ Below w.heap.size w w' :=
  (members_any m w hm).mono fun e w' ⟨v, h1, h2, h3⟩ => ⟨v, h1, own_nat h2, h3⟩
set_option maxHeartbeats 4000000 in
set_option maxRecDepth 100000 in
theorem implStatesAlong (vg va vk : Value) (g : Gr) (a : Au) (k : Wk) (w : World) (hgv : GrV 0 w.heap.size w vg g) (hav : AuV 0 w.heap.size w va a) (hkv : WkV 0 w.heap.size w vk k) :
    Calls Tryz.prog 21 #[vg, va, vk] w fun e w' => ∃ v' us, e = .returned v' ∧ NS w.heap.size w' 24 3 cI 1 v' us (statesL g a k) ∧ Below w.heap.size w w' := by
  have hgv0 := hgv
  have hav0 := hav
  have hkv0 := hkv
  obtain ⟨A1, n1, c1, A2, n2, c2, rfl⟩ := hgv.shape
  obtain ⟨A3, n3, c3, A4, n4, c4, rfl⟩ := hav.shape
  obtain ⟨A5, n5, c5, rfl⟩ := hkv.shape
  have hb0 : Below w.heap.size w (((w.alloc (.cells #[.slice A1 n1 c1, .slice A2 n2 c2] 27)).alloc (.cells #[.int .i64 a.start, .slice A3 n3 c3, .slice A4 n4 c4] 31)).alloc (.cells #[.int .i64 k.1, .slice A5 n5 c5] 43)) := (((Below.refl _ _).alloc (Nat.le_refl _) _).alloc (by simp) _).alloc (by simp; omega) _
  have hal := along_any _ _ _ g a k _ (hgv0.keep hb0) (hav0.keep hb0) (hkv0.keep hb0)
  obtain ⟨R, hR⟩ : ∃ R, R = statesL g a k := ⟨_, rfl⟩
  rw [← hR]
  have HAL := Lib.hid hal
  have HRR := Lib.hid hR
  have HB0 := Lib.hid hb0
  clear hgv hav hkv hgv0 hav0 hkv0 hR hal hb0
  cases hok : walkOk g k && auOk a with
  | false =>
    rw [hok] at HAL
    have hfin : R = [] := by rw [HRR.out, statesL, hok]; rfl
    subst hfin
    clear HRR hok
    go_enter Tryz.func21, Tryz.ntmps21
    go_wp2_with fail
    refine HAL.out.mono ?_
    rintro e w1 ⟨v1, v2, rfl, -, -, hb1⟩
    go_wp2_with fail
    go_ret
    exact ⟨_, [], rfl, NS.start (World.ownsRow_nil _ _ _ _), below_trans HB0.out hb1⟩
  | true =>
    rw [hok] at HAL
    obtain ⟨N, hN⟩ : ∃ N, N = k.2.length + 1 := ⟨_, rfl⟩
    have hfin : R = stL g a k N := by rw [HRR.out, statesL, hok, hN]; rfl
    have has : alongS g a k = setsL g a k (k.2.length + 1) := by rw [alongS, hok]; rfl
    have hok2 := hok
    simp only [Bool.and_eq_true] at hok2
    have hk60 := (walkOk_parts hok2.1).2.2.1
    have hST : ∀ i, setAt g a k i < 4096 := fun i => lt12 hok2.2 (setAt_lt hok2.2 k i)
    have HR := Lib.hid hfin
    have HST := Lib.hid hST
    have HN := Lib.hid hN
    have hN60 : N ≤ 61 := by omega
    have HAS := Lib.hid has
    clear HRR hok hok2 hfin hN hST hk60 has
    go_enter Tryz.func21, Tryz.ntmps21
    go_wp2_with fail
    refine HAL.out.mono ?_
    rintro e w1 ⟨v1, v2, rfl, ho1, ho2, hb1⟩
    rw [HAS.out] at ho1
    have hb2 := below_trans HB0.out hb1
    have HC1 := Lib.hid (ho1.sl cN_len)
    obtain ⟨A6, c6, rfl, hl6, hm6, -⟩ := ho1.form cN_len
    obtain ⟨A7, n7, c7, rfl⟩ := ho2.shape
    rw [setsL_len] at hl6 ⊢
    rw [← HN.out] at hl6 ⊢
    clear ho1 ho2 HAL HAS hb1
    go_wp2_with fail
    obtain ⟨gO, hgO⟩ : ∃ gO, gO = w1.heap.size := ⟨_, rfl⟩
    obtain ⟨W5, hW5⟩ : ∃ W5, W5 = w1.alloc (.cells #[] 24) := ⟨_, rfl⟩
    have hrow0 : W5.ownsRow gO 24 1 (.slice (some ⟨gO, 0, none⟩) 0 0) 0 [] := by
      rw [hW5, hgO]
      have h := World.ownsRow_lit (base := w1.heap.size) (e := 24) (size := 1) w1 #[] 0 (by simp) (by decide) rfl
      simpa using h
    have hb4 : Below w1.heap.size w1 W5 := by rw [hW5]; exact (Below.refl _ _).alloc (Nat.le_refl _) _
    have hgs : gO < W5.heap.size := by rw [hW5, hgO]; simp
    rw [← hW5, ← hgO]
    have HC6 := Lib.hid (HC1.out.below hb4 (Nat.le_refl _))
    rw [← hgO] at HC6
    have hwg : w.heap.size ≤ gO := by rw [hgO]; exact hb2.size
    have hb5 := below_trans hb2 hb4
    have HROW0 := Lib.hid hrow0
    clear hrow0 hW5 hgO hb4 hb2 HC1
    go_loopw [10, 26] (fun oo ii wr => ∃ (i : Nat) (us : List Value), i ≤ N ∧ ii = .int .i64 (i : Int) ∧ NS gO wr 24 3 cI 1 oo us (stL g a k i) ∧ (∀ b ∈ blks (oo :: us), b = gO ∨ W5.heap.size ≤ b) ∧ Only gO (gO + 1) W5 wr) (fun _ ii _ => N - (intOf ii).toNat)
    case atStart => exact ⟨0, [], Nat.zero_le _, rfl, NS.start HROW0.out, (fun b hb => .inl (blks_one hb)), Only.refl _ _ _⟩
    case round =>
      clear HROW0
      obtain ⟨i, us, hi, rfl, hns, hbk, hon⟩ := hrel
      have HNS := Lib.hid hns
      have HBK := Lib.hid hbk
      have HON := Lib.hid hon
      have hsz := hon.size
      have HBW := Lib.hid (hb5.trans (hon.below (B := w.heap.size) (by omega) hb5.size))
      clear hns hbk hon
      by_cases hlt : i < N
      · have hii : (i : Int) < (N : Int) := by omega
        have hxi := setsL_at (g := g) (a := a) (k := k) (n := k.2.length + 1) (i := i) (by have := HN.out; omega)
        obtain ⟨b6, o6, rfl, hb6, d6⟩ := HC6.out.natI hxi
        have d6 := ocell HON.out d6 (by omega) (by omega)
        have hb6w : b6 < wr.heap.size := by omega
        have hsl := HST.out i
        have HTS := Lib.hid (stL_snoc g a k i)
        have HME := Lib.hid (fun W => members_I (setAt g a k i) W (by omega))
        have hus := HNS.out.len
        rw [stL_len] at hus
        have hul : us.length ≤ 61 := by omega
        clear hxi hus
        generalize setAt g a k i = S at *
        generalize stL g a k i = L at *
        go_wp2_with fail
        refine (HME.out _).mono ?_
        rintro e w6 ⟨v6, rfl, ho6, hb6⟩
        obtain ⟨A9, n9, c9, rfl⟩ := ho6.shape
        have HO6 := Lib.hid ho6
        have HN6 := Lib.hid (HNS.out.below hb6)
        have HON6 := Lib.hid (HON.out.trans (Only.of_below hb6 gO (gO + 1)))
        have hs6 := hb6.size
        have HB6 := Lib.hid hb6
        clear ho6 hb6
        go_wp2_with (at_builtin; (refine wpList_append1 cV elSS rfl _ _ rfl gO _ us (.slice A9 n9 c9) _ 1 _ (by rfl) HN6.out.own (by rfl) rfl rfl rfl (by intro u hu; simp only [cV, List.mem_cons, List.not_mem_nil, or_false] at hu; subst hu; rfl) (by omega) (by omega) (by omega) ?_); intro v' w4 hrow' hb4 hat4 hgr4)
        go_roundw
        case rel =>
          have hat2 : ∀ g1, v'.ownBlock = some g1 → Value.ownBlock _ = some g1 ∨ w6.heap.size ≤ g1 := fun g1 hg1 => by
            rcases hat4 with h1 | ⟨g2, h1, h2⟩
            · exact .inl (by rw [← h1]; exact hg1)
            · rw [h1] at hg1
              injection hg1 with hg1
              exact .inr (by omega)
          refine ⟨i + 1, us ++ [.slice A9 n9 c9], by omega, by go_num, by rw [HTS.out]; exact HN6.out.push (ownsRow_mono HO6.out.1 (by omega)) (fun b hb hm => by have h1 := (HNS.out.lt b hm).2; have h2 := (HO6.out.lt b hb).1; omega) (grown_alloc hgr4) hrow' hat2, ?_, ?_⟩
          · refine blks_push HBK.out (fun b hb => ?_) (fun b hb => .inr ?_)
            · rcases hat2 b hb with h1 | h1
              · exact HBK.out b (mem_blks.2 ⟨0, _, rfl, h1⟩)
              · exact .inr (by omega)
            · have := (HO6.out.lt b hb).1
              omega
          · exact (HON6.out.alloc _).grown hgr4 (fun b hb => by have := HBK.out b (mem_blks.2 ⟨0, _, rfl, hb⟩); omega)
        case measure => simp [intOf]; omega
      · obtain rfl : i = N := by omega
        rw [← HR.out] at HNS
        obtain ⟨A9, c9, rfl, -, -⟩ := HNS.out.shape
        have HNM := Lib.hid (HNS.out.mono (show w.heap.size ≤ gO by omega))
        go_wp2_with fail
        go_ret
        exact ⟨_, _, rfl, HNM.out, HBW.out⟩
theorem l4Set_12 (m : Nat) (w : World) (hm : m < 4096) :
    Calls Tryz.prog 50 #[.int .i64 (m : Int)] w fun e w' => ∃ v', e = .returned v' ∧ Own w.heap.size w'.heap.size w' 3 cI 1 v' (memI 12 m) ∧ Below w.heap.size w w' := by
  have h := l4Set_any m w (by omega)
  rwa [memI_stop hm] at h
set_option maxHeartbeats 4000000 in
set_option maxRecDepth 100000 in
theorem specStatesAlong (vg va vk : Value) (g : Gr) (a : Au) (k : Wk) (w : World) (hgv : GrV 0 w.heap.size w vg g) (hav : AuV 0 w.heap.size w va a) (hkv : WkV 0 w.heap.size w vk k) :
    Calls Tryz.prog 23 #[vg, va, vk] w fun e w' => ∃ v' us, e = .returned v' ∧ NS w.heap.size w' 24 3 cI 1 v' us (statesL g a k) ∧ Below w.heap.size w w' := by
  have hgv0 := hgv
  have hav0 := hav
  have hkv0 := hkv
  obtain ⟨A1, n1, c1, A2, n2, c2, rfl⟩ := hgv.shape
  obtain ⟨A3, n3, c3, A4, n4, c4, rfl⟩ := hav.shape
  obtain ⟨A5, n5, c5, rfl⟩ := hkv.shape
  have hb0 : Below w.heap.size w (((w.alloc (.cells #[.slice A1 n1 c1, .slice A2 n2 c2] 27)).alloc (.cells #[.int .i64 a.start, .slice A3 n3 c3, .slice A4 n4 c4] 31)).alloc (.cells #[.int .i64 k.1, .slice A5 n5 c5] 43)) := (((Below.refl _ _).alloc (Nat.le_refl _) _).alloc (by simp) _).alloc (by simp; omega) _
  obtain ⟨R, hR⟩ : ∃ R, R = statesL g a k := ⟨_, rfl⟩
  rw [← hR]
  have HRR := Lib.hid hR
  have HGV := Lib.hid hgv0
  have HAV := Lib.hid hav0
  have HKV := Lib.hid hkv0
  clear hgv hav hkv hgv0 hav0 hkv0 hR
  go_enter Tryz.func23, Tryz.ntmps23
  go_wp2_with fail
  obtain ⟨W0, hW0⟩ : ∃ W0, W0 = (((w.alloc (.cells #[.slice A1 n1 c1, .slice A2 n2 c2] 27)).alloc (.cells #[.int .i64 a.start, .slice A3 n3 c3, .slice A4 n4 c4] 31)).alloc (.cells #[.int .i64 k.1, .slice A5 n5 c5] 43)).alloc (.cells #[] 24) := ⟨_, rfl⟩
  have hb0 : Below w.heap.size w W0 := by rw [hW0]; exact hb0.alloc hb0.size _
  rw [← hW0]
  have bx : Blk W0 w.heap.size 27 #[.slice A1 n1 c1, .slice A2 n2 c2] := by rw [hW0]; exact (((Blk.new w _ _ w.heap.size rfl).alloc _).alloc _).alloc _
  have by_ : Blk W0 (w.heap.size + 1) 31 #[.int .i64 a.start, .slice A3 n3 c3, .slice A4 n4 c4] := by rw [hW0]; exact ((Blk.new (w.alloc _) _ _ (w.heap.size + 1) (by simp)).alloc _).alloc _
  have bz : Blk W0 (w.heap.size + 1 + 1) 43 #[.int .i64 k.1, .slice A5 n5 c5] := by rw [hW0]; exact (Blk.new ((w.alloc _).alloc _) _ _ (w.heap.size + 1 + 1) (by simp)).alloc _
  have x0 : W0.cell? ⟨w.heap.size, 0, none⟩ = some (.slice A1 n1 c1) := by exact bx.cell 0
  have x1 : W0.cell? ⟨w.heap.size, 1, none⟩ = some (.slice A2 n2 c2) := by exact bx.cell 1
  have y0 : W0.cell? ⟨w.heap.size + 1, 0, none⟩ = some (.int .i64 a.start) := by exact by_.cell 0
  have y1 : W0.cell? ⟨w.heap.size + 1, 1, none⟩ = some (.slice A3 n3 c3) := by exact by_.cell 1
  have y2 : W0.cell? ⟨w.heap.size + 1, 2, none⟩ = some (.slice A4 n4 c4) := by exact by_.cell 2
  have z0 : W0.cell? ⟨w.heap.size + 1 + 1, 0, none⟩ = some (.int .i64 k.1) := by exact bz.cell 0
  have z1 : W0.cell? ⟨w.heap.size + 1 + 1, 1, none⟩ = some (.slice A5 n5 c5) := by exact bz.cell 1
  have l2 := bz.lt
  have l1 := by_.lt
  have l0 := bx.lt
  obtain ⟨gO, hgO⟩ : ∃ gO, gO = w.heap.size + 1 + 1 + 1 := ⟨_, rfl⟩
  have hrow0 : W0.ownsRow gO 24 1 (.slice (some ⟨gO, 0, none⟩) 0 0) 0 [] := by
    rw [hW0, hgO]
    have h := World.ownsRow_lit (base := w.heap.size + 1 + 1 + 1) (e := 24) (size := 1) (((w.alloc (.cells #[.slice A1 n1 c1, .slice A2 n2 c2] 27)).alloc (.cells #[.int .i64 a.start, .slice A3 n3 c3, .slice A4 n4 c4] 31)).alloc (.cells #[.int .i64 k.1, .slice A5 n5 c5] 43)) #[] 0 (by simp) (by decide) rfl
    simpa using h
  have hgs : gO < W0.heap.size := by rw [hW0, hgO]; simp
  rw [← hgO]
  have hwg : w.heap.size ≤ gO := by omega
  have HROW0 := Lib.hid hrow0
  clear hW0 bx by_ bz hrow0 hgO
  have hiw := specIsWalk _ _ g k W0 (HGV.out.keep hb0) (HKV.out.keep hb0)
  have HIW := Lib.hid hiw
  clear hiw
  cases hw : walkOk g k with
  | false =>
    rw [hw] at HIW
    have hfin : R = [] := by rw [HRR.out, statesL, hw]; rfl
    subst hfin
    clear HRR hw
    refine HIW.out.mono ?_
    rintro e w1 ⟨rfl, hb1⟩
    have HR1 := Lib.hid (ownsRow_mono (ownsRow_below HROW0.out hb1 (Nat.le_refl _)) hwg)
    go_wp2_with fail
    go_ret
    exact ⟨_, [], rfl, NS.start HR1.out, below_trans hb0 hb1⟩
  | true =>
    rw [hw] at HIW
    refine HIW.out.mono ?_
    rintro e w1 ⟨rfl, hb1⟩
    have hb2 := below_trans hb0 hb1
    have x0 := kcell hb1 x0
    have x1 := kcell hb1 x1
    have y0 := kcell hb1 y0
    have y1 := kcell hb1 y1
    have y2 := kcell hb1 y2
    have z0 := kcell hb1 z0
    have z1 := kcell hb1 z1
    have hs1 := hb1.size
    have l0 := Nat.lt_of_lt_of_le l0 hs1
    have l1 := Nat.lt_of_lt_of_le l1 hs1
    have l2 := Nat.lt_of_lt_of_le l2 hs1
    have HROW1 := Lib.hid (ownsRow_below HROW0.out hb1 (Nat.le_refl _))
    have hia := specValidAutomaton _ a w1 (HAV.out.keep hb2)
    have HIA := Lib.hid hia
    clear hia hb1 HROW0 HIW
    cases ha : auOk a with
    | false =>
      rw [ha] at HIA
      have hfin : R = [] := by rw [HRR.out, statesL, hw, ha]; rfl
      subst hfin
      clear HRR hw ha
      go_wp2_with fail
      refine HIA.out.mono ?_
      rintro e w3 ⟨rfl, hb3⟩
      have HR1 := Lib.hid (ownsRow_mono (ownsRow_below HROW1.out hb3 (Nat.le_refl _)) hwg)
      go_wp2_with fail
      go_ret
      exact ⟨_, [], rfl, NS.start HR1.out, below_trans hb2 hb3⟩
    | true =>
      rw [ha] at HIA
      obtain ⟨N, hN⟩ : ∃ N, N = k.2.length + 1 := ⟨_, rfl⟩
      have hfin : R = stL g a k N := by rw [HRR.out, statesL, hw, ha, hN]; rfl
      have hk60 := (walkOk_parts hw).2.2.1
      have hST : ∀ i, setAt g a k i < 4096 := fun i => lt12 ha (setAt_lt ha k i)
      have HAL := Lib.hid (fun (W : World) (hW : Below w.heap.size w W) => l18Along_any _ _ _ g a k W (HGV.out.keep hW) (HAV.out.keep hW) (HKV.out.keep hW) hw ha)
      have HR := Lib.hid hfin
      have HST := Lib.hid hST
      have HN := Lib.hid hN
      have hN60 : N ≤ 61 := by omega
      clear HRR hw ha hfin hN hST hk60
      go_wp2_with fail
      refine HIA.out.mono ?_
      rintro e w3 ⟨rfl, hb3⟩
      have hb4 := below_trans hb2 hb3
      have x0 := kcell hb3 x0
      have x1 := kcell hb3 x1
      have y0 := kcell hb3 y0
      have y1 := kcell hb3 y1
      have y2 := kcell hb3 y2
      have z0 := kcell hb3 z0
      have z1 := kcell hb3 z1
      have hs3 := hb3.size
      have l0 := Nat.lt_of_lt_of_le l0 hs3
      have l1 := Nat.lt_of_lt_of_le l1 hs3
      have l2 := Nat.lt_of_lt_of_le l2 hs3
      have HROW1 := Lib.hid (ownsRow_below HROW1.out hb3 (Nat.le_refl _))
      clear hb3 hb2 HIA
      go_wp2_with fail
      refine (HAL.out _ hb4).mono ?_
      rintro e W5 ⟨v1, rfl, ho1, hb1⟩
      have hb5 := below_trans hb4 hb1
      have hs5 := hb1.size
      have HC6 := Lib.hid (ho1.sl cN_len)
      obtain ⟨A6, c6, rfl, hl6, hm6, -⟩ := ho1.form cN_len
      have HROW0 := Lib.hid (ownsRow_below HROW1.out hb1 (Nat.le_refl _))
      rw [setsL_len] at hl6 ⊢
      rw [← HN.out] at hl6 ⊢
      clear ho1 HAL hb1 hb4 x0 x1 y0 y1 y2 z0 z1 HROW1
      go_wp2_with fail
      go_loopw [7, 9] (fun oo ii wr => ∃ (i : Nat) (us : List Value), i ≤ N ∧ ii = .int .i64 (i : Int) ∧ NS gO wr 24 3 cI 1 oo us (stL g a k i) ∧ (∀ b ∈ blks (oo :: us), b = gO ∨ W5.heap.size ≤ b) ∧ Only gO (gO + 1) W5 wr) (fun _ ii _ => N - (intOf ii).toNat)
      case atStart => exact ⟨0, [], Nat.zero_le _, rfl, NS.start HROW0.out, (fun b hb => .inl (blks_one hb)), Only.refl _ _ _⟩
      case round =>
        clear HROW0
        obtain ⟨i, us, hi, rfl, hns, hbk, hon⟩ := hrel
        have HNS := Lib.hid hns
        have HBK := Lib.hid hbk
        have HON := Lib.hid hon
        have hsz := hon.size
        have HBW := Lib.hid (hb5.trans (hon.below (B := w.heap.size) (by omega) hb5.size))
        clear hns hbk hon
        by_cases hlt : i < N
        · have hii : (i : Int) < (N : Int) := by omega
          have hxi := setsL_at (g := g) (a := a) (k := k) (n := k.2.length + 1) (i := i) (by have := HN.out; omega)
          obtain ⟨b6, o6, rfl, hb6, d6⟩ := HC6.out.natI hxi
          have d6 := ocell HON.out d6 (by omega) (by omega)
          have hb6w : b6 < wr.heap.size := by omega
          have hsl := HST.out i
          have HTS := Lib.hid (stL_snoc g a k i)
          have HME := Lib.hid (fun W => l4Set_12 (setAt g a k i) W (by omega))
          have hus := HNS.out.len
          rw [stL_len] at hus
          have hul : us.length ≤ 61 := by omega
          clear hxi hus
          generalize setAt g a k i = S at *
          generalize stL g a k i = L at *
          go_wp2_with fail
          refine (HME.out _).mono ?_
          rintro e w6 ⟨v6, rfl, ho6, hb6⟩
          obtain ⟨A9, n9, c9, rfl⟩ := ho6.shape
          have HO6 := Lib.hid ho6
          have HN6 := Lib.hid (HNS.out.below hb6)
          have HON6 := Lib.hid (HON.out.trans (Only.of_below hb6 gO (gO + 1)))
          have hs6 := hb6.size
          have HB6 := Lib.hid hb6
          clear ho6 hb6
          go_wp2_with (at_builtin; (refine wpList_append1 cV elSS rfl _ _ rfl gO _ us (.slice A9 n9 c9) _ 1 _ (by rfl) HN6.out.own (by rfl) rfl rfl rfl (by intro u hu; simp only [cV, List.mem_cons, List.not_mem_nil, or_false] at hu; subst hu; rfl) (by omega) (by omega) (by omega) ?_); intro v' w4 hrow' hb4 hat4 hgr4)
          go_roundw
          case rel =>
            have hat2 : ∀ g1, v'.ownBlock = some g1 → Value.ownBlock _ = some g1 ∨ w6.heap.size ≤ g1 := fun g1 hg1 => by
              rcases hat4 with h1 | ⟨g2, h1, h2⟩
              · exact .inl (by rw [← h1]; exact hg1)
              · rw [h1] at hg1
                injection hg1 with hg1
                exact .inr (by omega)
            refine ⟨i + 1, us ++ [.slice A9 n9 c9], by omega, by go_num, by rw [HTS.out]; exact HN6.out.push (ownsRow_mono HO6.out.1 (by omega)) (fun b hb hm => by have h1 := (HNS.out.lt b hm).2; have h2 := (HO6.out.lt b hb).1; omega) (grown_alloc hgr4) hrow' hat2, ?_, ?_⟩
            · refine blks_push HBK.out (fun b hb => ?_) (fun b hb => .inr ?_)
              · rcases hat2 b hb with h1 | h1
                · exact HBK.out b (mem_blks.2 ⟨0, _, rfl, h1⟩)
                · exact .inr (by omega)
              · have := (HO6.out.lt b hb).1
                omega
            · exact (HON6.out.alloc _).grown hgr4 (fun b hb => by have := HBK.out b (mem_blks.2 ⟨0, _, rfl, hb⟩); omega)
          case measure => simp [intOf]; omega
        · obtain rfl : i = N := by omega
          rw [← HR.out] at HNS
          obtain ⟨A9, c9, rfl, -, -⟩ := HNS.out.shape
          have HNM := Lib.hid (HNS.out.mono (show w.heap.size ≤ gO by omega))
          go_wp2_with fail
          go_ret
          exact ⟨_, _, rfl, HNM.out, HBW.out⟩
end Go.Proofs.YtallglnmeeahiaaGreat
namespace Go.Proofs.YtallglnmeeahiaaGreat
set_option linter.unusedVariables false
set_option linter.unusedSimpArgs false
end Go.Proofs.YtallglnmeeahiaaGreat
namespace Go.Proofs.YtallglnmeeahiaaGreat
set_option linter.unusedVariables false
set_option linter.unusedSimpArgs false
theorem seat_mayEnter : Tryz.pinned.checked.prog.mayEnter = true := by kernel_rfl
theorem seat_lifts : Tryz.pinned.checked.prog.liftsFinal = false := by kernel_rfl
theorem seat_laidOut : laidOutB Tryz.pinned.checked.prog = true := by kernel_rfl
theorem seat_mapsRowed : mapsRowed Tryz.pinned.checked.prog = true := by kernel_rfl
end Go.Proofs.YtallglnmeeahiaaGreat
