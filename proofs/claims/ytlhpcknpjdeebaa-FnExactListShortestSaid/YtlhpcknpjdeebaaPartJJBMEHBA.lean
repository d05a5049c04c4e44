/- Parts of the proof, joined into one text: NthWI, LayV, LayF, LayR, Srw, Lay1. -/
import Derived.Test.YtlhpcknpjdeebaaPartBEHCIADD
import Derived.Test.YtlhpcknpjdeebaaPartNEFHKDJH
import Derived.Test.YtlhpcknpjdeebaaPartLOMEEABO
import Derived.Test.YtlhpcknpjdeebaaPartHCBNMMEI
import Derived.Test.YtlhpcknpjdeebaaPartFIPIGBAP
import Derived.Test.YtlhpcknpjdeebaaPartGNMHAPIG
/- The program's NthWalk. -/
namespace Go.Proofs.Ytlhpcknpjdeebaa
set_option linter.unusedVariables false
set_option linter.unusedSimpArgs false
open Go.ChangeShapes Go.WideShapes Go.ChangeAt Go.RowKit Go.Maps
attribute [local go_sem] ext_cell ext_frozen ext_lt ext_lt1 ext_lt2 ext_lt3 ltn2 ltn3 ltn13 lts1 lts2 lts3

theorem range61 {d : Nat} (h : d < 61) : (List.range 61)[d]? = some d := by simp [h]
theorem range61_len : (List.range 61).length = 61 := List.length_range
set_option maxHeartbeats 8000000 in
set_option maxRecDepth 100000 in
theorem implNthWalk (vg va : Value) (g : Gr) (a : Au) (x y n : Int) (w : World) (hgv : GrV 0 w.heap.size w vg g) (hav : AuV 0 w.heap.size w va a) :
    Calls Try.prog 12 #[vg, va, .int .i64 x, .int .i64 y, .int .i64 n] w fun e w' => ∃ v', e = .returned (.tuple #[v', .bool (nthWalk g a x y n).2]) ∧ WkO w.heap.size w'.heap.size w' v' (nthWalk g a x y n).1 ∧ Below w.heap.size w w' := by
  have hgv0 := hgv
  have hav0 := hav
  obtain ⟨A1, n1, c1, A2, n2, c2, rfl⟩ := hgv.shape
  obtain ⟨A3, n3, c3, A4, n4, c4, rfl⟩ := hav.shape
  have hb0 : Below w.heap.size w (((w.alloc (.cells #[.slice A1 n1 c1, .slice A2 n2 c2] 39)).alloc (.cells #[.int .i64 a.start, .slice A3 n3 c3, .slice A4 n4 c4] 41)).alloc (.cells #[.int .i64 0, .slice none 0 0] 34)) := (((Below.refl _ _).alloc (Nat.le_refl _) _).alloc (by simp) _).alloc (by simp; omega) _
  have hbG := ((Blk.new w 39 #[.slice A1 n1 c1, .slice A2 n2 c2] w.heap.size rfl).alloc (.cells #[.int .i64 a.start, .slice A3 n3 c3, .slice A4 n4 c4] 41)).alloc (.cells #[.int .i64 0, .slice none 0 0] 34)
  have hbA := (Blk.new (w.alloc (.cells #[.slice A1 n1 c1, .slice A2 n2 c2] 39)) 41 #[.int .i64 a.start, .slice A3 n3 c3, .slice A4 n4 c4] (w.heap.size + 1) (by simp)).alloc (.cells #[.int .i64 0, .slice none 0 0] 34)
  have hbR := Blk.new ((w.alloc (.cells #[.slice A1 n1 c1, .slice A2 n2 c2] 39)).alloc (.cells #[.int .i64 a.start, .slice A3 n3 c3, .slice A4 n4 c4] 41)) 34 #[.int .i64 0, .slice none 0 0] (w.heap.size + 1 + 1) (by simp)
  have HBG := Lib.hid hbG
  have HBA := Lib.hid hbA
  have HBR := Lib.hid hbR
  have HGV := Lib.hid hgv0
  have HAV := Lib.hid hav0
  have HB0 := Lib.hid hb0
  have HSL := Lib.hid (fun (W : World) (hW : Below w.heap.size w W) => implShortestLength _ _ g a x y W (HGV.out.keep hW) (HAV.out.keep hW))
  clear hgv hav hgv0 hav0 hb0 hbG hbA hbR
  obtain ⟨R, hR⟩ : ∃ R, R = nthWalk g a x y n := ⟨_, rfl⟩
  rw [← hR]
  by_cases hneg : shortLen g a x y < 0
  · have HF := Lib.hid (show R = ((0, []), false) by rw [hR, nthWalk, if_neg]; rw [decide_eq_false (by omega)]; simp)
    generalize shortLen g a x y = SL at *
    clear hR
    go_enter Try.func12, Try.ntmps12
    go_wp2_with fail
    refine (HSL.out _ HB0.out).mono ?_
    rintro e w1 ⟨rfl, hb1⟩
    have hb2 := below_trans HB0.out hb1
    have bR := HBR.out.keep hb1
    have r0 : w1.cell? ⟨w.heap.size + 1 + 1, 0, none⟩ = some (.int .i64 0) := bR.cell 0
    have r1 : w1.cell? ⟨w.heap.size + 1 + 1, 1, none⟩ = some (.slice none 0 0) := bR.cell 1
    have fr0 := bR.frozen 0
    have fr1 := bR.frozen 1
    have lr := bR.lt
    clear bR
    clear hb1
    go_wp2_with fail
    refine bodyPost_ret (v := .tuple #[.agg #[.int .i64 0, .slice none 0 0], .bool false]) (by simp [results, Try.results12, go_sem, r0, r1]) rfl ⟨_, by rw [HF.out], ?_, (hb2.setCell (p := ⟨w.heap.size + 1 + 1, 0, none⟩) (by simp only; omega) _).setCell (p := ⟨w.heap.size + 1 + 1, 1, none⟩) (by simp only; omega) _⟩
    rw [HF.out]
    exact ⟨_, rfl, Own.nil _ _ _ _ _ _⟩
  · have hco := shortLen_ok (show 0 ≤ shortLen g a x y by omega)
    obtain ⟨⟨hx0, hx1⟩, ⟨hy0, hy1⟩, hgo, ha⟩ := cntOk_iff.1 hco
    have hRe : R = if wi n 0 999999 = true then nthWalkP g a x y n.toNat else ((0, []), false) := by rw [hR, nthWalk, decide_eq_true (show 0 ≤ shortLen g a x y by omega), Bool.true_and]
    clear hR
    generalize shortLen g a x y = L at *
    obtain ⟨x, rfl⟩ := Int.eq_ofNat_of_zero_le hx0
    have HGO := Lib.hid hgo
    have HA := Lib.hid ha
    have HSO := Lib.hid (startOk ha)
    have hn5 := (grOk_iff.1 hgo).n5
    have hxl : x < g.vals.length := by omega
    have HW := Lib.hid (fun W => within_any n 0 999999 W)
    cases hwn : wi n 0 999999 with
    | false =>
      have HF := Lib.hid (show R = ((0, []), false) by rw [hRe, hwn]; simp)
      rw [hwn] at HW
      clear hco hgo ha hx0 hx1 hy0 hy1 hRe hwn
      go_enter Try.func12, Try.ntmps12
      go_wp2_with fail
      refine (HSL.out _ HB0.out).mono ?_
      rintro e w1 ⟨rfl, hb1⟩
      have hb2 := below_trans HB0.out hb1
      have bR := HBR.out.keep hb1
      have r0 : w1.cell? ⟨w.heap.size + 1 + 1, 0, none⟩ = some (.int .i64 0) := bR.cell 0
      have r1 : w1.cell? ⟨w.heap.size + 1 + 1, 1, none⟩ = some (.slice none 0 0) := bR.cell 1
      have fr0 := bR.frozen 0
      have fr1 := bR.frozen 1
      have lr := bR.lt
      clear bR
      clear hb1
      go_wp2_with fail
      refine (HW.out _).mono ?_
      rintro e w9 ⟨rfl, hw9⟩
      rw [hw9]
      clear hw9
      go_wp2_with fail
      refine bodyPost_ret (v := .tuple #[.agg #[.int .i64 0, .slice none 0 0], .bool false]) (by simp [results, Try.results12, go_sem, r0, r1]) rfl ⟨_, by rw [HF.out], ?_, (hb2.setCell (p := ⟨w.heap.size + 1 + 1, 0, none⟩) (by simp only; omega) _).setCell (p := ⟨w.heap.size + 1 + 1, 1, none⟩) (by simp only; omega) _⟩
      rw [HF.out]
      exact ⟨_, rfl, Own.nil _ _ _ _ _ _⟩
    | true =>
      have hwi := wi_iff.1 hwn
      obtain ⟨n, rfl⟩ := Int.eq_ofNat_of_zero_le hwi.1
      have hn6 : n ≤ 999999 := by omega
      have hRp : R = nthWalkP g a (x : Int) y n := by rw [hRe, hwn, if_pos rfl, Int.toNat_natCast]
      have hK : ∀ f, cwI g a (x : Int) y f = cw g a y f x (bit a.start.toNat) := fun f => rfl
      have HPK := Lib.hid (fun (f m : Nat) (h : pick (cwI g a (x : Int) y) (List.range 61) n = some (f, m)) => show R = (((x : Int), nthL g a y f x (bit a.start.toNat) m), true) by rw [hRp, nthWalkP]; simp only [h]; rfl)
      have HNO := Lib.hid (fun (h : pick (cwI g a (x : Int) y) (List.range 61) n = none) => show R = ((0, []), false) by rw [hRp, nthWalkP]; simp only [h])
      obtain ⟨KW, hKW⟩ : ∃ KW, KW = cwI g a (x : Int) y := ⟨_, rfl⟩
      rw [← hKW] at HPK HNO
      have HKW := Lib.hid (fun f => (show KW f = cw g a y f x (bit a.start.toNat) by rw [hKW]; exact hK f))
      have HKL := Lib.hid (fun f => (show KW f ≤ 1000000 by rw [hKW]; exact cwI_le ..))
      rw [hwn] at HW
      clear hco hgo ha hx0 hx1 hy0 hy1 hRe hwn hwi hRp hK hKW
      go_enter Try.func12, Try.ntmps12
      go_wp2_with fail
      refine (HSL.out _ HB0.out).mono ?_
      rintro e w1 ⟨rfl, hb1⟩
      have hb2 := below_trans HB0.out hb1
      have bG := HBG.out.keep hb1
      have bA := HBA.out.keep hb1
      have x0 : w1.cell? ⟨w.heap.size, 0, none⟩ = some (.slice A1 n1 c1) := bG.cell 0
      have x1 : w1.cell? ⟨w.heap.size, 1, none⟩ = some (.slice A2 n2 c2) := bG.cell 1
      have y0 : w1.cell? ⟨w.heap.size + 1, 0, none⟩ = some (.int .i64 a.start) := bA.cell 0
      have y1 : w1.cell? ⟨w.heap.size + 1, 1, none⟩ = some (.slice A3 n3 c3) := bA.cell 1
      have y2 : w1.cell? ⟨w.heap.size + 1, 2, none⟩ = some (.slice A4 n4 c4) := bA.cell 2
      clear bG bA
      have HR1 := Lib.hid (HBR.out.keep hb1)
      clear hb1
      go_wp2_with fail
      refine (HW.out _).mono ?_
      rintro e w9 ⟨rfl, hw9⟩
      rw [hw9]
      clear hw9
      go_wp2_with fail
      refine (newCounter_any _ _ g a y _ (HGV.out.keep hb2) (HAV.out.keep hb2) HGO.out HA.out).mono ?_
      rintro e w2 ⟨bC, bM, rfl, hbM, hctr, hmem, hb3⟩
      have hb4 := below_trans hb2 hb3
      have hwM : w.heap.size ≤ bM := Nat.le_trans hb2.size hbM
      have hsz3 := hb3.size
      have lbMw := hmem.lt
      have HR2 := Lib.hid (HR1.out.keep hb3)
      have HC2 := Lib.hid hctr
      have HM2 := Lib.hid hmem
      have HB4 := Lib.hid hb4
      have hlr := HR1.out.lt
      have hbs := hb2.size
      clear hb2 hb4 hb3 x0 x1 y0 y1 y2 hctr hmem
      go_wp2_with fail
      go_loopw [4, 13] (fun nn ll wr => ∃ (d : Nat) (M : List Plc), d ≤ 61 ∧ nn = .int .i64 (leftN KW ((List.range 61).take d) n : Nat) ∧ ll = .int .i64 (d : Int) ∧ (∀ j q, j < d → (List.range 61)[j]? = some q → ¬ leftN KW ((List.range 61).take j) n < KW q) ∧ Ctr g a y wr bC bM ∧ Mem g a y wr bM M ∧ Blk wr (w.heap.size + 1 + 1) 34 #[.int .i64 0, .slice none 0 0] ∧ Below w.heap.size w wr ∧ w2.heap.size ≤ wr.heap.size) (fun _ ll _ => 61 - (intOf ll).toNat)
      case atStart => exact ⟨0, [], by omega, rfl, rfl, fun j q hj => by omega, HC2.out, HM2.out, HR2.out, HB4.out, Nat.le_refl _⟩
      case round =>
        obtain ⟨d, M, hd, rfl, rfl, hno, hct, hme, hbr, hbl, hsz⟩ := hrel
        have hll := leftN_le KW ((List.range 61).take d) n
        by_cases hlt : d < 61
        · have hdl : ((d : Int) ≤ 60) := by omega
          have hrd := range61 hlt
          have hPH := fun h => pick_here hrd hno h
          have hLS := leftN_succ (k := KW) (n := n) hrd
          have hno2 : ¬ leftN KW ((List.range 61).take d) n < KW d → ∀ j q, j < d + 1 → (List.range 61)[j]? = some q → ¬ leftN KW ((List.range 61).take j) n < KW q := fun h j q hj hq => by
            rcases Nat.lt_or_ge j d with h1 | h1
            · exact hno j q h1 hq
            · obtain rfl : j = d := by omega
              rw [hrd] at hq
              injection hq with hq
              rw [← hq]; exact h
          have HPH := Lib.hid hPH
          have HLS := Lib.hid hLS
          have HN2 := Lib.hid hno2
          have HCL := HKL.out d
          have HKD := Lib.hid (HKW.out d)
          obtain ⟨CC, hCC⟩ : ∃ CC, CC = KW d := ⟨_, rfl⟩
          rw [← hCC] at HPH HLS HN2 HCL HKD
          obtain ⟨m1, hm1⟩ : ∃ m1, m1 = leftN KW ((List.range 61).take d) n := ⟨_, rfl⟩
          rw [← hm1] at HPH HLS HN2 hll ⊢
          have HC := Lib.hid hct
          have HM := Lib.hid hme
          have HR := Lib.hid hbr
          have HB := Lib.hid hbl
          have lrr := hbr.lt
          have lmm := hme.lt
          clear hPH hLS hno2 hrd hno hct hme hbr hbl hCC hm1
          go_wp2_with fail
          refine (start_any g a y HA.out bC bM x d _ HC.out (by omega) (by omega)).mono ?_
          rintro e w3 ⟨rfl, hb5⟩
          have hbQ := (Below.refl w3.heap.size w3).alloc (Nat.le_refl _) (.cells #[.int .i64 (x : Int), .int .i64 (bit a.start.toNat : Nat), .int .i64 (d : Int)] 82)
          have bQ := Blk.new w3 82 #[.int .i64 (x : Int), .int .i64 (bit a.start.toNat : Nat), .int .i64 (d : Int)] w3.heap.size rfl
          have hb6 := below_trans hb5 hbQ
          go_wp2_with fail
          refine (count_any g a y HGO.out HA.out bC bM d x _ M _ (HC.out.keep hb6) (HM.out.keep hb6) hxl HSO.out (by omega)).mono ?_
          rintro e w4 ⟨rfl, hleft⟩
          rw [← HKD.out]
          have hb7 := below_trans HB.out hb6
          have hb8 := hb7.trans (hleft.below hwM hb7.size)
          have hR4 := (HR.out.keep hb6).only hleft.1 (.inl (by omega))
          have hs5 := hb5.size
          have bQ4 := bQ.only hleft.1 (.inr (by omega))
          have q0 : w4.cell? ⟨w3.heap.size, 0, none⟩ = some (.int .i64 (x : Int)) := bQ4.cell 0
          have q1 : w4.cell? ⟨w3.heap.size, 1, none⟩ = some (.int .i64 (bit a.start.toNat : Nat)) := bQ4.cell 1
          have q2 : w4.cell? ⟨w3.heap.size, 2, none⟩ = some (.int .i64 (d : Int)) := bQ4.cell 2
          have lQ := bQ4.lt
          have hs4 : w3.heap.size ≤ w4.heap.size := by omega
          obtain ⟨hon4, M4, hm4, -⟩ := hleft
          have HCT4 := Lib.hid ((HC.out.keep hb6).only hon4)
          have HM4 := Lib.hid hm4
          have HR4 := Lib.hid hR4
          have HB8 := Lib.hid hb8
          clear hb5 hbQ hb6 hR4 bQ bQ4 hm4 hon4 hb7 hb8
          by_cases hpk : m1 < CC
          · have hpk1 : (m1 : Int) < (CC : Int) := by omega
            have HF := Lib.hid (HPK.out d m1 (HPH.out hpk))
            have HNN := Lib.hid (show m1 < cw g a y d x (bit a.start.toNat) by rw [← HKD.out]; exact hpk)
            go_wp2_with fail
            refine (nth_any g a y HGO.out HA.out bC bM d x _ m1 M4 w4 HCT4.out HM4.out hxl HSO.out (by omega) HNN.out).mono ?_
            rintro e w5 ⟨v5, rfl, ho5, hon5, M5, hm5⟩
            have hb9 := HB8.out.trans (hon5.below hwM HB8.out.size)
            have hR5 := HR4.out.only hon5 (.inl (by omega))
            have bR := hR5
            have r0 : w5.cell? ⟨w.heap.size + 1 + 1, 0, none⟩ = some (.int .i64 0) := bR.cell 0
            have r1 : w5.cell? ⟨w.heap.size + 1 + 1, 1, none⟩ = some (.slice none 0 0) := bR.cell 1
            have fr0 := bR.frozen 0
            have fr1 := bR.frozen 1
            have lr := bR.lt
            clear bR
            obtain ⟨A9, n9, c9, rfl⟩ := ho5.shape
            have hsz4 := HB8.out.size
            have lr4 := HR4.out.lt
            have hon3 := ((Only.refl (w.heap.size + 1 + 1) (w.heap.size + 1 + 1 + 1) w5).setCell (p := ⟨w.heap.size + 1 + 1, 0, none⟩) (.inl ⟨Nat.le_refl _, Nat.lt_succ_self _⟩) (.int .i64 (x : Int))).setCell (p := ⟨w.heap.size + 1 + 1, 1, none⟩) (.inl ⟨Nat.le_refl _, Nat.lt_succ_self _⟩) (.slice A9 n9 c9)
            have HO5 := Lib.hid ((ho5.only hon3 (.inr (by omega))).mono (show w.heap.size ≤ w4.heap.size by omega) hon3.size)
            have HB5 := Lib.hid (hb9.trans (hon3.below (show w.heap.size ≤ w.heap.size + 1 + 1 by omega) hb9.size))
            clear ho5 hon5 hm5 hR5 hon3 q0 q1 q2
            go_wp2_with fail
            refine bodyPost_ret (v := .tuple #[.agg #[.int .i64 (x : Int), .slice A9 n9 c9], .bool true]) (by simp [results, Try.results12, go_sem, r0, r1]) rfl ⟨_, by rw [HF.out], ?_, HB5.out⟩
            rw [HF.out]
            exact ⟨_, rfl, HO5.out⟩
          · have hpk1 : ¬ (m1 : Int) < (CC : Int) := by omega
            have hsub : IntKind.i64.wrap ((m1 : Int) - (CC : Int)) = ((m1 - CC : Nat) : Int) := by rw [IntWalk.i64_in _ (by omega)]; omega
            have hsub2 : (m1 : Int) - (CC : Int) = ((m1 - CC : Nat) : Int) := by omega
            have HNP := Lib.hid (HN2.out hpk)
            clear HPH HN2
            go_wp2_with fail
            clear hsub
            go_roundw
            case rel => exact ⟨d + 1, M4, by omega, by first | (rw [HLS.out, hsub2]; done) | (rw [HLS.out]; done) | (rw [HLS.out]; rw [hsub2]) | (rw [HLS.out]; rfl), by go_num, HNP.out, HCT4.out, HM4.out, HR4.out, HB8.out, by omega⟩
            case measure => simp [intOf]; omega
        · obtain rfl : d = 61 := by omega
          have HF := Lib.hid (HNO.out (pick_end (by rw [range61_len]; exact hno)))
          have bR := hbr
          have r0 : wr.cell? ⟨w.heap.size + 1 + 1, 0, none⟩ = some (.int .i64 0) := bR.cell 0
          have r1 : wr.cell? ⟨w.heap.size + 1 + 1, 1, none⟩ = some (.slice none 0 0) := bR.cell 1
          have fr0 := bR.frozen 0
          have fr1 := bR.frozen 1
          have lr := bR.lt
          have HB := Lib.hid hbl
          clear bR hno hct hme hbr hbl
          go_wp2_with fail
          refine bodyPost_ret (v := .tuple #[.agg #[.int .i64 0, .slice none 0 0], .bool false]) (by simp [results, Try.results12, go_sem, r0, r1]) rfl ⟨_, by rw [HF.out], ?_, (HB.out.setCell (p := ⟨w.heap.size + 1 + 1, 0, none⟩) (by simp only; omega) _).setCell (p := ⟨w.heap.size + 1 + 1, 1, none⟩) (by simp only; omega) _⟩
          rw [HF.out]
          exact ⟨_, rfl, Own.nil _ _ _ _ _ _⟩
end Go.Proofs.Ytlhpcknpjdeebaa

/- The reference's layers in memory: a row of structs with two slices each. -/
namespace Go.Proofs.Ytlhpcknpjdeebaa
set_option linter.unusedVariables false
set_option linter.unusedSimpArgs false
open Go.ChangeShapes Go.WideShapes Go.ChangeAt Go.RowKit
structure Zr where
  node : Nat
  set : Nat
  cnt : Nat
  sv : Value
  tv : Value
def cZ (z : Zr) : List Value := [.int .i64 (z.node : Int), .int .i64 (z.set : Int), .int .i64 (z.cnt : Int), z.sv, z.tv]
theorem cZ_len (z : Zr) : (cZ z).length = 5 := rfl
def rawZ (k : Key) : Zr := ⟨k.1, k.2, 0, .slice none 0 0, .slice none 0 0⟩
theorem elZ : ElemOk Try.prog 73 72 (.agg #[.int .i64 0, .int .i64 0, .int .i64 0, .slice none 0 0, .slice none 0 0]) 5 72 := ⟨Try.underlying73, by kernel_rfl, rfl, by omega⟩
/-- a row's two slices, in blocks from lo to hi -/
def RowV (lo hi : Nat) (w : World) (z : Zr) (T : List (St × Nat)) : Prop :=
  Own lo hi w 96 cSt 2 z.sv (T.map (·.1)) ∧ Own lo hi w 3 cN 1 z.tv (T.map (·.2))
theorem flatZ_set : ∀ (zs : List Zr) (i : Nat) (z : Zr), i < zs.length →
    (((((zs.flatMap cZ).set (i * 5) (.int .i64 (z.node : Int))).set (i * 5 + 1) (.int .i64 (z.set : Int))).set (i * 5 + 2) (.int .i64 (z.cnt : Int))).set (i * 5 + 3) z.sv).set (i * 5 + 4) z.tv = (zs.set i z).flatMap cZ
  | [], _, _, h => absurd h (Nat.not_lt_zero _)
  | y :: ys, 0, z, _ => by simp [cZ]
  | y :: ys, i + 1, z, h => by
    have ih := flatZ_set ys i z (by simpa using h)
    simp only [List.flatMap_cons, cZ, List.cons_append, List.nil_append, List.set_cons_succ, Nat.succ_mul]
    rw [← ih]
/-- two rows of one's own, of other types, lie in other blocks -/
theorem own_ne {w : World} {b1 b2 k1 k2 n1 n2 : Nat} {e1 e2 : TypeId} {v1 v2 : Value} {c1 c2 : List Value} (h1 : w.ownsRow b1 e1 k1 v1 n1 c1) (h2 : w.ownsRow b2 e2 k2 v2 n2 c2) (he : e1 ≠ e2) {g : Nat} (hg : v1.ownBlock = some g) : v2.ownBlock ≠ some g := by
  intro hg2
  rcases h1.2 with ⟨rfl, _⟩ | ⟨g1, _, _, rfl, _, hh1, _⟩
  · cases hg
  · rcases h2.2 with ⟨rfl, _⟩ | ⟨g2, _, _, rfl, _, hh2, _⟩
    · cases hg2
    · simp only [Value.ownBlock, Option.some.injEq] at hg hg2
      subst hg hg2
      rw [hh1] at hh2
      injection hh2 with hh2
      injection hh2 with _ h4
      exact he h4
theorem Own.ne_of {w : World} {b1 k1 n1 lo hi k : Nat} {e1 e : TypeId} {v1 v : Value} {c1 : List Value} {α : Type} {E : α → List Value} {xs : List α} (h1 : w.ownsRow b1 e1 k1 v1 n1 c1) (h : Own lo hi w e E k v xs) (he : e1 ≠ e) {g : Nat} (hg : v.ownBlock = some g) : v1.ownBlock ≠ some g :=
  own_ne h.1 h1 (Ne.symm he) hg
theorem Own.blocks {lo hi k : Nat} {w w' : World} {e : TypeId} {v : Value} {α : Type} {E : α → List Value} {xs : List α} (h : Own lo hi w e E k v xs) (hb : ∀ g, v.ownBlock = some g → w'.heap[g]? = w.heap[g]?) : Own lo hi w' e E k v xs := ⟨ownsRow_block h.1 hb, h.2⟩
theorem tyZS : 72 ≠ 96 := by decide
theorem tyZI : 72 ≠ 3 := by decide
theorem tySI : 96 ≠ 3 := by decide
section
variable {lo hi g c : Nat} {w w' : World} {N : List Key} {C : Nat → Nat} {T : Nat → List (St × Nat)} {zs : List Zr} {z : Zr} {t : List (St × Nat)}
theorem RowV.nil (lo hi : Nat) (w : World) (k : Key) : RowV lo hi w (rawZ k) [] := ⟨Own.nil _ _ _ _ _ _, Own.nil _ _ _ _ _ _⟩
theorem RowV.mono (h : RowV lo hi w z t) {lo' hi' : Nat} (h1 : lo' ≤ lo) (h2 : hi ≤ hi') : RowV lo' hi' w z t := ⟨h.1.mono h1 h2, h.2.mono h1 h2⟩
theorem RowV.blocks (h : RowV lo hi w z t) (hb : ∀ b, lo ≤ b → b < hi → b < w.heap.size → w'.heap[b]? = w.heap[b]?) : RowV lo hi w' z t :=
  ⟨h.1.blocks fun b hg => hb b (h.1.lt b hg).1 (h.1.lt b hg).2.1 (h.1.lt b hg).2.2, h.2.blocks fun b hg => hb b (h.2.lt b hg).1 (h.2.lt b hg).2.1 (h.2.lt b hg).2.2⟩
theorem RowV.below (h : RowV lo hi w z t) (hb : Below w.heap.size w w') : RowV lo hi w' z t := h.blocks fun b _ _ hl => hb.block b hl
/-- a row's slices stand when a block of the rows' own type turns -/
theorem RowV.nodeTurn (h : RowV lo hi w z t) {b0 n0 c0 : Nat} {cs0 : List Value} (hr : w.ownsRow b0 72 5 (.slice (some ⟨g, 0, none⟩) n0 c0) n0 cs0) (hb : ∀ b, b ≠ g → b < w.heap.size → w'.heap[b]? = w.heap[b]?) : RowV lo hi w' z t :=
  ⟨h.1.blocks fun b hg => hb b (fun e => by subst e; exact Own.ne_of hr h.1 tyZS hg rfl) (h.1.lt b hg).2.2, h.2.blocks fun b hg => hb b (fun e => by subst e; exact Own.ne_of hr h.2 tyZI hg rfl) (h.2.lt b hg).2.2⟩
/-- a layer: the rows lie in block g, their slices in blocks from lo to hi -/
structure LayV (lo hi : Nat) (w : World) (g c : Nat) (N : List Key) (C : Nat → Nat) (T : Nat → List (St × Nat)) (zs : List Zr) : Prop where
  row : w.ownsRow 0 72 5 (.slice (some ⟨g, 0, none⟩) N.length c) N.length (zs.flatMap cZ)
  len : zs.length = N.length
  at_ : ∀ i k z, N[i]? = some k → zs[i]? = some z → z.node = k.1 ∧ z.set = k.2 ∧ z.cnt = C i ∧ RowV lo hi w z (T i)
theorem LayV.lt (h : LayV lo hi w g c N C T zs) : g < w.heap.size := (h.row.lt g rfl).2
theorem LayV.blocks (h : LayV lo hi w g c N C T zs) (hb : ∀ b, (b = g ∨ (lo ≤ b ∧ b < hi)) → b < w.heap.size → w'.heap[b]? = w.heap[b]?) : LayV lo hi w' g c N C T zs :=
  ⟨ownsRow_block h.row fun b hg => hb b (.inl (by injection hg with hg; exact hg.symm)) (h.row.lt b hg).2, h.len, fun i k z hk hz => by
    obtain ⟨h1, h2, h3, h4⟩ := h.at_ i k z hk hz
    exact ⟨h1, h2, h3, h4.blocks fun b h5 h6 hl => hb b (.inr ⟨h5, h6⟩) hl⟩⟩
theorem LayV.below (h : LayV lo hi w g c N C T zs) (hb : Below w.heap.size w w') : LayV lo hi w' g c N C T zs := h.blocks fun b _ hl => hb.block b hl
theorem LayV.mono (h : LayV lo hi w g c N C T zs) {lo' hi' : Nat} (h1 : lo' ≤ lo) (h2 : hi ≤ hi') : LayV lo' hi' w g c N C T zs :=
  ⟨h.row, h.len, fun i k z hk hz => by obtain ⟨a1, a2, a3, a4⟩ := h.at_ i k z hk hz; exact ⟨a1, a2, a3, a4.mono h1 h2⟩⟩
/-- another block of rows turns: the layer stands -/
theorem LayV.other (h : LayV lo hi w g c N C T zs) {g' b0 n0 c0 : Nat} {cs0 : List Value} (hr : w.ownsRow b0 72 5 (.slice (some ⟨g', 0, none⟩) n0 c0) n0 cs0) (hne : g ≠ g') (hb : ∀ b, b ≠ g' → b < w.heap.size → w'.heap[b]? = w.heap[b]?) : LayV lo hi w' g c N C T zs :=
  ⟨ownsRow_block h.row fun b hg => hb b (by injection hg with hg; rw [← hg]; exact hne) (h.row.lt b hg).2, h.len, fun i k z hk hz => by
    obtain ⟨h1, h2, h3, h4⟩ := h.at_ i k z hk hz
    exact ⟨h1, h2, h3, h4.nodeTurn hr hb⟩⟩
theorem LayV.get (h : LayV lo hi w g c N C T zs) {i : Nat} {k : Key} (hk : N[i]? = some k) : ∃ z, zs[i]? = some z ∧ z.node = k.1 ∧ z.set = k.2 ∧ z.cnt = C i ∧ RowV lo hi w z (T i) ∧
    w.cell? ⟨g, i * 5, none⟩ = some (.int .i64 (k.1 : Int)) ∧ w.cell? ⟨g, i * 5 + 1, none⟩ = some (.int .i64 (k.2 : Int)) ∧ w.cell? ⟨g, i * 5 + 2, none⟩ = some (.int .i64 (C i : Int)) ∧ w.cell? ⟨g, i * 5 + 3, none⟩ = some z.sv ∧ w.cell? ⟨g, i * 5 + 4, none⟩ = some z.tv := by
  have hi := (List.getElem?_eq_some_iff.1 hk).1
  have hz : zs[i]? = some (zs[i]'(by rw [h.len]; exact hi)) := List.getElem?_eq_getElem _
  generalize zs[i]'(by rw [h.len]; exact hi) = z at hz
  obtain ⟨h1, h2, h3, h4⟩ := h.at_ i k z hk hz
  have hc : ∀ j u, (cZ z)[j]? = some u → j < 5 → w.cell? ⟨g, i * 5 + j, none⟩ = some u := fun j u hu hj => by
    rw [h.row.cellAt (i * 5 + j) (by omega)]
    exact flat_at cZ_len hz j u hu
  refine ⟨z, hz, h1, h2, h3, h4, ?_, ?_, ?_, hc 3 _ rfl (by omega), hc 4 _ rfl (by omega)⟩
  · rw [← h1]; exact hc 0 _ rfl (by omega)
  · rw [← h2]; exact hc 1 _ rfl (by omega)
  · rw [← h3]; exact hc 2 _ rfl (by omega)
/-- a row is stored anew: five cells -/
def put5 (w : World) (g o : Nat) (z : Zr) : World :=
  ((((w.setCell ⟨g, o, none⟩ (.int .i64 (z.node : Int))).setCell ⟨g, o + 1, none⟩ (.int .i64 (z.set : Int))).setCell ⟨g, o + 2, none⟩ (.int .i64 (z.cnt : Int))).setCell ⟨g, o + 3, none⟩ z.sv).setCell ⟨g, o + 4, none⟩ z.tv
theorem put5_block (w : World) (g o : Nat) (z : Zr) : ∀ b, b ≠ g → (put5 w g o z).heap[b]? = w.heap[b]? := fun b hb => by
  unfold put5
  rw [Below.heap_setCell _ _ _ _ hb, Below.heap_setCell _ _ _ _ hb, Below.heap_setCell _ _ _ _ hb, Below.heap_setCell _ _ _ _ hb, Below.heap_setCell _ _ _ _ hb]
theorem put5_size (w : World) (g o : Nat) (z : Zr) : (put5 w g o z).heap.size = w.heap.size := by simp [put5]
theorem put5_only (w : World) (g o : Nat) (z : Zr) : Only g (g + 1) w (put5 w g o z) :=
  (((((Only.refl g (g + 1) w).setCell (p := ⟨g, o, none⟩) (.inl ⟨Nat.le_refl _, Nat.lt_succ_self _⟩) _).setCell (p := ⟨g, o + 1, none⟩) (.inl ⟨Nat.le_refl _, Nat.lt_succ_self _⟩) _).setCell (p := ⟨g, o + 2, none⟩) (.inl ⟨Nat.le_refl _, Nat.lt_succ_self _⟩) _).setCell (p := ⟨g, o + 3, none⟩) (.inl ⟨Nat.le_refl _, Nat.lt_succ_self _⟩) _).setCell (p := ⟨g, o + 4, none⟩) (.inl ⟨Nat.le_refl _, Nat.lt_succ_self _⟩) _
theorem LayV.put (h : LayV lo hi w g c N C T zs) {i : Nat} {k : Key} {z : Zr} {n : Nat} {t : List (St × Nat)} (hk : N[i]? = some k) (h1 : z.node = k.1) (h2 : z.set = k.2) (h3 : z.cnt = n) (h4 : RowV lo hi w z t) :
    LayV lo hi (put5 w g (i * 5) z) g c N (fun j => if j = i then n else C j) (fun j => if j = i then t else T j) (zs.set i z) := by
  have hi := (List.getElem?_eq_some_iff.1 hk).1
  have hb := put5_block w g (i * 5) z
  refine ⟨?_, by rw [List.length_set, h.len], fun j k' z' hk' hz' => ?_⟩
  · have r1 := (World.ownsRow.stored h.row (i * 5) (.int .i64 (z.node : Int))).1
    have r2 := (World.ownsRow.stored r1 (i * 5 + 1) (.int .i64 (z.set : Int))).1
    have r3 := (World.ownsRow.stored r2 (i * 5 + 2) (.int .i64 (z.cnt : Int))).1
    have r4 := (World.ownsRow.stored r3 (i * 5 + 3) z.sv).1
    have r5 := (World.ownsRow.stored r4 (i * 5 + 4) z.tv).1
    rw [flatZ_set zs i z (by rw [h.len]; exact hi)] at r5
    exact r5
  · rw [List.getElem?_set] at hz'
    by_cases e : i = j
    · subst e
      rw [if_pos rfl, if_pos (by rw [h.len]; exact hi)] at hz'
      injection hz' with hz'
      subst hz'
      rw [hk] at hk'
      injection hk' with hk'
      subst hk'
      rw [if_pos rfl, if_pos rfl]
      exact ⟨h1, h2, h3, h4.nodeTurn h.row fun b hb' _ => hb b hb'⟩
    · rw [if_neg e] at hz'
      obtain ⟨g1, g2, g3, g4⟩ := h.at_ j k' z' hk' hz'
      rw [if_neg (Ne.symm e), if_neg (Ne.symm e)]
      exact ⟨g1, g2, g3, g4.nodeTurn h.row fun b hb' _ => hb b hb'⟩
theorem LayV.congr (h : LayV lo hi w g c N C T zs) {C' : Nat → Nat} {T' : Nat → List (St × Nat)} (hC : ∀ i, i < N.length → C' i = C i) (hT : ∀ i, i < N.length → T' i = T i) : LayV lo hi w g c N C' T' zs :=
  ⟨h.row, h.len, fun i k z hk hz => by
    have hi := (List.getElem?_eq_some_iff.1 hk).1
    rw [hC i hi, hT i hi]
    exact h.at_ i k z hk hz⟩
theorem LayV.raw (w : World) (N : List Key) (h : w.ownsRow 0 72 5 (.slice (some ⟨g, 0, none⟩) N.length c) N.length ((N.map rawZ).flatMap cZ)) (lo hi : Nat) : LayV lo hi w g c N (fun _ => 0) (fun _ => []) (N.map rawZ) :=
  ⟨h, by simp, fun i k z hk hz => by
    rw [List.getElem?_map, hk] at hz
    simp only [Option.map_some, Option.some.injEq] at hz
    subst hz
    exact ⟨rfl, rfl, rfl, RowV.nil _ _ _ _⟩⟩
end
end Go.Proofs.Ytlhpcknpjdeebaa

/- The reference's l19Find. -/
namespace Go.Proofs.Ytlhpcknpjdeebaa
set_option linter.unusedVariables false
set_option linter.unusedSimpArgs false
open Go.ChangeShapes Go.WideShapes Go.ChangeAt Go.RowKit
attribute [local go_sem] ext_cell ext_frozen ext_lt ext_lt1 ext_lt2 ext_lt3 ltn2 ltn3 ltn13 lts1 lts2 lts3
theorem findK_hit {N : List Key} {k : Key} {i : Nat} (h : N[i]? = some k) (hno : ∀ (j : Nat) (k' : Key), j < i → N[j]? = some k' → k' ≠ k) : findK N k = some i := by
  refine List.findIdx?_eq_some_iff_getElem.2 ⟨(List.getElem?_eq_some_iff.1 h).1, ?_, fun j hj => ?_⟩
  · rw [(List.getElem?_eq_some_iff.1 h).2]; simp
  · have hjl : j < N.length := Nat.lt_trans hj (List.getElem?_eq_some_iff.1 h).1
    have := hno j N[j] hj (List.getElem?_eq_getElem hjl)
    simpa using this
theorem findK_miss {N : List Key} {k : Key} (hno : ∀ (j : Nat) (k' : Key), j < N.length → N[j]? = some k' → k' ≠ k) : findK N k = none := by
  refine List.findIdx?_eq_none_iff.2 fun x hx => ?_
  obtain ⟨j, hj, rfl⟩ := List.getElem_of_mem hx
  have := hno j _ hj (List.getElem?_eq_getElem hj)
  simpa using this
def findI (N : List Key) (k : Key) : Int := match findK N k with
  | some i => (i : Int)
  | none => -1
theorem rawZ_at {N : List Key} {i : Nat} {k : Key} (h : N[i]? = some k) : (N.map rawZ)[i]? = some (rawZ k) := by rw [List.getElem?_map, h]; rfl
set_option maxHeartbeats 2000000 in
theorem l19Find_any (v : Value) (N : List Key) (x m : Nat) (w : World) (hv : SlE w cZ 5 v (N.map rawZ)) :
    Calls Try.prog 94 #[v, .int .i64 (x : Int), .int .i64 (m : Int)] w fun e w' => e = .returned (.int .i64 (findI N (x, m))) ∧ w' = w := by
  obtain ⟨A, c, rfl, hl, hm, hC⟩ := SlE.form hv
  rw [List.length_map] at hl ⊢
  have HC := Lib.hid hC
  obtain ⟨R, hR⟩ : ∃ R, R = findI N (x, m) := ⟨_, rfl⟩
  rw [← hR]
  have HR := Lib.hid hR
  clear hv hC hR
  go_enter Try.func94, Try.ntmps94
  go_wp2_with fail
  go_loop [7] (fun ii => ∃ i : Nat, i ≤ N.length ∧ ii = .int .i64 (i : Int) ∧ (∀ (j : Nat) (k' : Key), j < i → N[j]? = some k' → k' ≠ (x, m))) (fun ii => N.length - (intOf ii).toNat)
  case atStart => exact ⟨0, Nat.zero_le _, rfl, fun j k' hj => by omega⟩
  case round =>
    obtain ⟨i, hi, rfl, hno⟩ := hrel
    have HNO := Lib.hid hno
    clear hno
    by_cases hlt : i < N.length
    · have hk : N[i]? = some N[i] := List.getElem?_eq_getElem hlt
      generalize N[i] = k at hk
      obtain ⟨b, o, rfl, hb, hc⟩ := HC.out.at_ i (rawZ k) (rawZ_at hk)
      have d0 := hc 0 _ rfl
      have d1 := hc 1 _ rfl
      rw [Nat.add_zero] at d0
      have hii : (i : Int) < (N.length : Int) := by omega
      obtain ⟨kn, ks⟩ := k
      simp only [rawZ] at d0 d1
      have HK := Lib.hid hk
      clear hc hk
      by_cases h1 : kn = x
      · subst h1
        by_cases h2 : ks = m
        · subst h2
          have hfin : R = (i : Int) := by rw [HR.out, findI, findK_hit HK.out HNO.out]
          subst hfin
          clear HR
          go_wp2
          go_ret
          exact ⟨rfl, rfl⟩
        · have h2a : ((ks : Int) == (m : Int)) = false := by simp; omega
          have h2b : decide ((ks : Int) = (m : Int)) = false := by simp; omega
          have HN := Lib.hid (show ∀ (j : Nat) (k' : Key), j < i + 1 → N[j]? = some k' → k' ≠ (kn, m) from fun j k' hj hk' => by
            rcases Nat.lt_or_ge j i with h | h
            · exact HNO.out j k' h hk'
            · obtain rfl : j = i := (by omega)
              rw [HK.out] at hk'
              injection hk' with hk'
              rw [← hk']; intro e; injection e with _ e; exact h2 e)
          go_wp2
          go_round
          case rel => exact ⟨i + 1, by omega, by go_num, HN.out⟩
          case measure => simp [intOf]; omega
      · have h1a : ((kn : Int) == (x : Int)) = false := by simp; omega
        have h1b : decide ((kn : Int) = (x : Int)) = false := by simp; omega
        have HN := Lib.hid (show ∀ (j : Nat) (k' : Key), j < i + 1 → N[j]? = some k' → k' ≠ (x, m) from fun j k' hj hk' => by
          rcases Nat.lt_or_ge j i with h | h
          · exact HNO.out j k' h hk'
          · obtain rfl : j = i := (by omega)
            rw [HK.out] at hk'
            injection hk' with hk'
            rw [← hk']; intro e; injection e with e _; exact h1 e)
        go_wp2
        go_round
        case rel => exact ⟨i + 1, by omega, by go_num, HN.out⟩
        case measure => simp [intOf]; omega
    · obtain rfl : i = N.length := by omega
      have hfin : R = -1 := by rw [HR.out, findI, findK_miss HNO.out]
      subst hfin
      clear HR
      go_wp2
      go_ret
      exact ⟨rfl, rfl⟩
end Go.Proofs.Ytlhpcknpjdeebaa

/- A layer in the making: the row that is filled beside the others. -/
namespace Go.Proofs.Ytlhpcknpjdeebaa
set_option linter.unusedVariables false
set_option linter.unusedSimpArgs false
open Go.ChangeShapes Go.WideShapes Go.ChangeAt Go.RowKit
section
variable {lo hi H g c i : Nat} {w w' : World} {N : List Key} {T : Nat → List (St × Nat)} {zs : List Zr} {z : Zr} {t : List (St × Nat)}
/-- all rows but i lie below H; row i's slices from H on -/
structure LayR (b H i : Nat) (w : World) (g c : Nat) (N : List Key) (T : Nat → List (St × Nat)) (t : List (St × Nat)) (zs : List Zr) : Prop where
  row : w.ownsRow 0 72 5 (.slice (some ⟨g, 0, none⟩) N.length c) N.length (zs.flatMap cZ)
  len : zs.length = N.length
  rest : ∀ j k z, j ≠ i → N[j]? = some k → zs[j]? = some z → z.node = k.1 ∧ z.set = k.2 ∧ z.cnt = 0 ∧ RowV b H w z (T j)
  cur : ∀ k z, N[i]? = some k → zs[i]? = some z → z.node = k.1 ∧ z.set = k.2 ∧ z.cnt = 0 ∧ RowV H w.heap.size w z t
  raw : ∀ j k, i < j → N[j]? = some k → zs[j]? = some (rawZ k)
theorem RowV.nilAny (k : Key) (lo hi : Nat) (w : World) : RowV lo hi w (rawZ k) [] := RowV.nil _ _ _ _
/-- .. when a row is begun -/
theorem LayR.start (h : LayV lo hi w g c N (fun _ => 0) T zs) (hb : hi ≤ H) (hr : ∀ j k, i ≤ j → N[j]? = some k → zs[j]? = some (rawZ k)) : LayR lo H i w g c N T [] zs :=
  ⟨h.row, h.len, fun j k z _ hk hz => by
    obtain ⟨h1, h2, h3, h4⟩ := h.at_ j k z hk hz
    exact ⟨h1, h2, h3, h4.mono (Nat.le_refl _) hb⟩, fun k z hk hz => by
    have := hr i k (Nat.le_refl _) hk
    rw [hz] at this
    injection this with this
    subst this
    exact ⟨rfl, rfl, rfl, RowV.nil _ _ _ _⟩, fun j k hj hk => hr j k (by omega) hk⟩
/-- .. when it is done -/
theorem LayR.done {T' : Nat → List (St × Nat)} (h : LayR lo H i w g c N T t zs) (hlH : lo ≤ H) (hH : H ≤ w.heap.size) (hT : ∀ j, j ≠ i → j < N.length → T' j = T j) (ht : T' i = t) : LayV lo w.heap.size w g c N (fun _ => 0) T' zs :=
  ⟨h.row, h.len, fun j k z hk hz => by
    by_cases e : j = i
    · subst e
      obtain ⟨h1, h2, h3, h4⟩ := h.cur k z hk hz
      rw [ht]
      exact ⟨h1, h2, h3, h4.mono hlH (Nat.le_refl _)⟩
    · obtain ⟨h1, h2, h3, h4⟩ := h.rest j k z e hk hz
      rw [hT j e (List.getElem?_eq_some_iff.1 hk).1]
      exact ⟨h1, h2, h3, h4.mono (Nat.le_refl _) hH⟩⟩
theorem LayR.lt (h : LayR lo H i w g c N T t zs) : g < w.heap.size := (h.row.lt g rfl).2
/-- blocks that the layer does not hold may turn -/
theorem LayR.below (h : LayR lo H i w g c N T t zs) (hb : Below w.heap.size w w') : LayR lo H i w' g c N T t zs :=
  ⟨ownsRow_below h.row hb (Nat.le_refl _), h.len, fun j k z hj hk hz => by
    obtain ⟨h1, h2, h3, h4⟩ := h.rest j k z hj hk hz
    exact ⟨h1, h2, h3, h4.below hb⟩, fun k z hk hz => by
    obtain ⟨h1, h2, h3, h4⟩ := h.cur k z hk hz
    exact ⟨h1, h2, h3, (h4.below hb).mono (Nat.le_refl _) hb.size⟩, h.raw⟩
/-- another block of rows turns -/
theorem LayR.other (h : LayR lo H i w g c N T t zs) {g' b0 n0 c0 : Nat} {cs0 : List Value} (hr : w.ownsRow b0 72 5 (.slice (some ⟨g', 0, none⟩) n0 c0) n0 cs0) (hne : g ≠ g') (hs : w.heap.size ≤ w'.heap.size) (hb : ∀ b, b ≠ g' → b < w.heap.size → w'.heap[b]? = w.heap[b]?) : LayR lo H i w' g c N T t zs :=
  ⟨ownsRow_block h.row fun b hg => hb b (by injection hg with hg; rw [← hg]; exact hne) (h.row.lt b hg).2, h.len, fun j k z hj hk hz => by
    obtain ⟨h1, h2, h3, h4⟩ := h.rest j k z hj hk hz
    exact ⟨h1, h2, h3, h4.nodeTurn hr hb⟩, fun k z hk hz => by
    obtain ⟨h1, h2, h3, h4⟩ := h.cur k z hk hz
    exact ⟨h1, h2, h3, (h4.nodeTurn hr hb).mono (Nat.le_refl _) hs⟩, h.raw⟩
/-- row i's slices turn: the others stand, and the rows' block -/
theorem LayR.rowTurn (h : LayR lo H i w g c N T t zs) (hgH : g < H) (hb : ∀ b, b < H → b < w.heap.size → w'.heap[b]? = w.heap[b]?) :
    w'.ownsRow 0 72 5 (.slice (some ⟨g, 0, none⟩) N.length c) N.length (zs.flatMap cZ) ∧ ∀ j k z, j ≠ i → N[j]? = some k → zs[j]? = some z → z.node = k.1 ∧ z.set = k.2 ∧ z.cnt = 0 ∧ RowV lo H w' z (T j) :=
  ⟨ownsRow_block h.row fun b hg => hb b (by injection hg with hg; rw [← hg]; exact hgH) (h.row.lt b hg).2, fun j k z hj hk hz => by
    obtain ⟨h1, h2, h3, h4⟩ := h.rest j k z hj hk hz
    exact ⟨h1, h2, h3, h4.blocks fun b _ h5 h6 => hb b h5 h6⟩⟩
/-- row i is stored anew -/
theorem LayR.put {t' : List (St × Nat)} (h : LayR lo H i w g c N T t zs) (hgH : g < H) (hb : ∀ b, b < H → b < w.heap.size → w'.heap[b]? = w.heap[b]?) {k : Key} (hk : N[i]? = some k) (h1 : z.node = k.1) (h2 : z.set = k.2) (h3 : z.cnt = 0) (h4 : RowV H w'.heap.size w' z t') :
    LayR lo H i (put5 w' g (i * 5) z) g c N T t' (zs.set i z) := by
  have hi := (List.getElem?_eq_some_iff.1 hk).1
  obtain ⟨hrow, hrest⟩ := h.rowTurn hgH hb
  have hbp := put5_block w' g (i * 5) z
  have hsz := put5_size w' g (i * 5) z
  refine ⟨?_, by rw [List.length_set, h.len], fun j k' z' hj hk' hz' => ?_, fun k' z' hk' hz' => ?_, fun j k' hj hk' => ?_⟩
  · have r1 := (World.ownsRow.stored hrow (i * 5) (.int .i64 (z.node : Int))).1
    have r2 := (World.ownsRow.stored r1 (i * 5 + 1) (.int .i64 (z.set : Int))).1
    have r3 := (World.ownsRow.stored r2 (i * 5 + 2) (.int .i64 (z.cnt : Int))).1
    have r4 := (World.ownsRow.stored r3 (i * 5 + 3) z.sv).1
    have r5 := (World.ownsRow.stored r4 (i * 5 + 4) z.tv).1
    rw [flatZ_set zs i z (by rw [h.len]; exact hi)] at r5
    exact r5
  · rw [List.getElem?_set, if_neg (Ne.symm hj)] at hz'
    obtain ⟨g1, g2, g3, g4⟩ := hrest j k' z' hj hk' hz'
    exact ⟨g1, g2, g3, g4.nodeTurn hrow fun b hb' _ => hbp b hb'⟩
  · rw [List.getElem?_set, if_pos rfl, if_pos (by rw [h.len]; exact hi)] at hz'
    injection hz' with hz'
    subst hz'
    rw [hk] at hk'
    injection hk' with hk'
    subst hk'
    refine ⟨h1, h2, h3, ?_⟩
    rw [hsz]
    exact h4.nodeTurn hrow fun b hb' _ => hbp b hb'
  · rw [List.getElem?_set, if_neg (by omega)]
    exact h.raw j k' hj hk'
theorem LayR.get (h : LayR lo H i w g c N T t zs) {k : Key} (hk : N[i]? = some k) : ∃ z, zs[i]? = some z ∧ z.node = k.1 ∧ z.set = k.2 ∧ z.cnt = 0 ∧ RowV H w.heap.size w z t ∧
    w.cell? ⟨g, i * 5, none⟩ = some (.int .i64 (k.1 : Int)) ∧ w.cell? ⟨g, i * 5 + 1, none⟩ = some (.int .i64 (k.2 : Int)) ∧ w.cell? ⟨g, i * 5 + 2, none⟩ = some (.int .i64 0) ∧ w.cell? ⟨g, i * 5 + 3, none⟩ = some z.sv ∧ w.cell? ⟨g, i * 5 + 4, none⟩ = some z.tv := by
  have hi := (List.getElem?_eq_some_iff.1 hk).1
  have hz : zs[i]? = some (zs[i]'(by rw [h.len]; exact hi)) := List.getElem?_eq_getElem _
  generalize zs[i]'(by rw [h.len]; exact hi) = z at hz
  obtain ⟨h1, h2, h3, h4⟩ := h.cur k z hk hz
  have hc : ∀ j u, (cZ z)[j]? = some u → j < 5 → w.cell? ⟨g, i * 5 + j, none⟩ = some u := fun j u hu hj => by
    rw [h.row.cellAt (i * 5 + j) (by omega)]
    exact flat_at cZ_len hz j u hu
  refine ⟨z, hz, h1, h2, h3, h4, ?_, ?_, ?_, hc 3 _ rfl (by omega), hc 4 _ rfl (by omega)⟩
  · rw [← h1]; exact hc 0 _ rfl (by omega)
  · rw [← h2]; exact hc 1 _ rfl (by omega)
  · have := hc 2 _ rfl (by omega)
    rw [h3] at this
    exact this
end
end Go.Proofs.Ytlhpcknpjdeebaa

/- What a call leaves that writes one box and one row of its own: all other blocks stand. -/
namespace Go.Proofs.Ytlhpcknpjdeebaa
set_option linter.unusedVariables false
set_option linter.unusedSimpArgs false
open Go.ChangeShapes Go.WideShapes Go.ChangeAt Go.RowKit

structure Srw (bS : Nat) (r : Option Nat) (w w' : World) : Prop where
  os : w'.os = w.os
  tape : w'.tape = w.tape
  output : w'.output = w.output
  size : w.heap.size ≤ w'.heap.size
  block : ∀ n, n < w.heap.size → n ≠ bS → r ≠ some n → w'.heap[n]? = w.heap[n]?
section
variable {bS : Nat} {r r1 : Option Nat} {w w1 w2 w' : World}
theorem Srw.refl (bS : Nat) (r : Option Nat) (w : World) : Srw bS r w w := ⟨rfl, rfl, rfl, Nat.le_refl _, fun _ _ _ _ => rfl⟩
theorem Srw.trans (h : Srw bS r w w1) (h2 : Srw bS r1 w1 w2) (hr : ∀ n, r1 = some n → r = some n ∨ w.heap.size ≤ n) : Srw bS r w w2 :=
  ⟨h2.os.trans h.os, h2.tape.trans h.tape, h2.output.trans h.output, Nat.le_trans h.size h2.size, fun n hn h3 h4 =>
    (h2.block n (Nat.lt_of_lt_of_le hn h.size) h3 (fun e => by rcases hr n e with h5 | h5; exact h4 h5; omega)).trans (h.block n hn h3 h4)⟩
theorem Srw.of_below {B : Nat} (h : Below B w w') (hB : w.heap.size ≤ B) (bS : Nat) (r : Option Nat) : Srw bS r w w' := ⟨h.os, h.tape, h.output, h.size, fun n hn _ _ => h.block n (by omega)⟩
theorem Srw.set (bS : Nat) (r : Option Nat) (w : World) (i : Nat) (u : Value) : Srw bS r w (w.setCell ⟨bS, i, none⟩ u) :=
  ⟨rfl, rfl, rfl, by simp [World.setCell], fun n _ h3 _ => Below.heap_setCell w ⟨bS, i, none⟩ u n h3⟩
theorem Srw.of_grown (h : w.grownBy w' r1) (hr : ∀ n, r1 = some n → r = some n ∨ w.heap.size ≤ n) (bS : Nat) : Srw bS r w w' :=
  ⟨h.os, h.tape, h.output, h.size, fun n hn _ h4 => h.block n hn (fun e => by rcases hr n e.symm with h5 | h5; exact h4 h5; omega)⟩
theorem Srw.below (h : Srw bS r w w') {B : Nat} (h1 : B ≤ bS) (h2 : ∀ n, r = some n → B ≤ n) (h3 : B ≤ w.heap.size) : Below B w w' :=
  ⟨h.os, h.tape, h.output, h.size, fun n hn => h.block n (by omega) (by omega) (fun e => by have := h2 n e; omega)⟩
theorem Srw.sl {α : Type} {E : α → List Value} {lo hi k : Nat} {v : Value} {xs : List α} (h : SlI lo hi w E k v xs) (hs : Srw bS r w w') (hh : hi ≤ w.heap.size) (h1 : bS < lo ∨ hi ≤ bS) (h2 : ∀ n, r = some n → n < lo ∨ hi ≤ n) : SlI lo hi w' E k v xs :=
  h.keep_ fun b o h3 h4 => World.cell?_of_block (hs.block b (by omega) (by omega) (fun e => by have := h2 b e; omega))
theorem Srw.only {W0 : World} (h : Srw bS r w w') (h1 : ∀ n, r = some n → W0.heap.size ≤ n) : Only bS (bS + 1) W0 w → Only bS (bS + 1) W0 w' := fun h0 =>
  ⟨h.os.trans h0.os, h.tape.trans h0.tape, h.output.trans h0.output, Nat.le_trans h0.size h.size, fun n hn ho => (h.block n (Nat.lt_of_lt_of_le hn h0.size) (by omega) (fun e => by have := h1 n e; omega)).trans (h0.block n hn ho)⟩
theorem Srw.cell {b o : Nat} {v : Value} (hs : Srw bS r w w') (hc : w.cell? ⟨b, o, none⟩ = some v) (hb : b < w.heap.size) (h1 : b ≠ bS) (h2 : r ≠ some b) : w'.cell? ⟨b, o, none⟩ = some v :=
  (World.cell?_of_block (a := ⟨b, o, none⟩) (hs.block b hb h1 h2)).trans hc
theorem SlI.stI {lo hi : Nat} {w : World} {A : Option Addr} {n c : Nat} {xs : List St} (h : SlI lo hi w cSt 2 (.slice A n c) xs) {i : Nat} {x : St} (hx : xs[i]? = some x) :
    ∃ b o, A = some ⟨b, o, none⟩ ∧ (lo ≤ b ∧ b < hi) ∧ w.cell? ⟨b, o + i * 2, none⟩ = some (.int .i64 x.1) ∧ w.cell? ⟨b, o + i * 2 + 1, none⟩ = some (.bool x.2) := by
  obtain ⟨A', c', hv, _, _, h3⟩ := h
  injection hv with h1 _ _
  subst h1
  obtain ⟨b, o, e, g1, g2, hc⟩ := h3 i x hx
  exact ⟨b, o, e, ⟨g1, g2⟩, by simpa using hc 0 _ rfl, hc 1 _ rfl⟩
end
end Go.Proofs.Ytlhpcknpjdeebaa

/- The reference's l19Layer: the next layer, and each row's steps with their ends. -/
namespace Go.Proofs.Ytlhpcknpjdeebaa
set_option linter.unusedVariables false
set_option linter.unusedSimpArgs false
open Go.ChangeShapes Go.WideShapes Go.ChangeAt Go.RowKit
attribute [local go_sem] ext_cell ext_frozen ext_lt ext_lt1 ext_lt2 ext_lt3 ltn2 ltn3 ltn13 lts1 lts2 lts3
theorem layTo_at (g : Gr) (a : Au) (N : List Key) {i j : Nat} {k : Key} (h : N[i]? = some k) (hi : i ≤ N.length) (hj : j < i) : (layTo g a N (i + 1)).2.getD j [] = (layTo g a N i).2.getD j [] := by
  have hl := (layTo_row g a N i hi).1
  rw [layTo_succ h]
  simp only
  rw [List.getD_eq_getElem?_getD, List.getD_eq_getElem?_getD, List.getElem?_append_left (by omega)]
theorem layTo_new (g : Gr) (a : Au) (N : List Key) {i : Nat} {k : Key} (h : N[i]? = some k) (hi : i ≤ N.length) : (layTo g a N (i + 1)).2.getD i [] = (rowL g a (layTo g a N i).1 k.1 k.2).2 := by
  have hl := (layTo_row g a N i hi).1
  rw [layTo_succ h]
  simp only
  rw [List.getD_eq_getElem?_getD, List.getElem?_append_right (by omega), hl, Nat.sub_self]; rfl
theorem layTo_past (g : Gr) (a : Au) (N : List Key) {i j : Nat} (hi : i ≤ N.length) (hj : i ≤ j) : (layTo g a N i).2.getD j [] = [] := by
  have hl := (layTo_row g a N i hi).1
  rw [List.getD_eq_getElem?_getD, List.getElem?_eq_none (by omega)]; rfl
theorem rawZ_one (k : Key) : ∀ u ∈ cZ (rawZ k), u.oneCell' = true := by
  intro u hu
  simp only [cZ, rawZ, List.mem_cons, List.not_mem_nil, or_false] at hu
  rcases hu with rfl | rfl | rfl | rfl | rfl <;> rfl
theorem elStL : ElemOk Try.prog 32 96 (.agg #[.int .i64 0, .bool false]) 2 16 := ⟨Try.underlying32, by kernel_rfl, rfl, by omega⟩
theorem elNL : ElemOk Try.prog 22 3 (.int .i64 0) 1 8 := ⟨Try.underlying22, by kernel_rfl, rfl, by omega⟩
theorem only_past {lo hi B : Nat} {a b c : World} (h : Only lo hi a b) (hb : Below B b c) (hB : a.heap.size ≤ B) : Only lo hi a c :=
  ⟨hb.os.trans h.os, hb.tape.trans h.tape, hb.output.trans h.output, Nat.le_trans h.size hb.size, fun n hn ho => (hb.block n (by omega)).trans (h.block n hn ho)⟩
theorem only_new {lo hi l r : Nat} {a b c : World} (h : Only lo hi a b) (k : Only l r b c) (hl : a.heap.size ≤ l) : Only lo hi a c :=
  ⟨k.os.trans h.os, k.tape.trans h.tape, k.output.trans h.output, Nat.le_trans h.size k.size, fun n hn ho => (k.block n (Nat.lt_of_lt_of_le hn h.size) (.inl (by omega))).trans (h.block n hn ho)⟩
theorem only_row {w w' : World} {o : Obj} {g : Nat} (hg : (w.alloc o).grownBy w' (some g)) : Only g (g + 1) w w' :=
  ⟨hg.os, hg.tape, hg.output, by have := hg.size; simp at this; omega, fun n hn ho => (hg.block n (by simp; omega) (fun e => by injection e with e; omega)).trans (Below.heap_alloc _ _ _ hn)⟩
set_option maxHeartbeats 16000000 in
set_option maxRecDepth 100000 in
theorem l19Layer_any (vg va : Value) (g : Gr) (a : Au) (B0 : Nat) (N : List Key) (gl cl lo hi : Nat) (w : World) (hgv : GrV 0 B0 w vg g) (hav : AuV 0 B0 w va a) (hB0 : B0 ≤ gl) (hgo : grOk g = true) (ha : auOk a = true) (hN : KeysOk g a N)
    (hl : LayV lo hi w gl cl N (fun _ => 0) (fun _ => []) (N.map rawZ)) :
    Calls Try.prog 71 #[vg, va, .slice (some ⟨gl, 0, none⟩) N.length cl] w fun e w' => ∃ gn cn zs, e = .returned (.slice (some ⟨gn, 0, none⟩) (layA g a N).1.length cn) ∧ w.heap.size ≤ gn ∧
      w'.ownsRow w.heap.size 72 5 (.slice (some ⟨gn, 0, none⟩) (layA g a N).1.length cn) (layA g a N).1.length (((layA g a N).1.map rawZ).flatMap cZ) ∧
      LayV w.heap.size w'.heap.size w' gl cl N (fun _ => 0) (fun i => (layA g a N).2.getD i []) zs ∧ Only gl (gl + 1) w w' := by
  have hgl := hl.lt
  have hNl := hN.len (grOk_iff.1 hgo) ha
  have hgs := hgv.shape
  have has := hav.shape
  obtain ⟨A1, n1, c1, A2, n2, c2, rfl⟩ := hgs
  obtain ⟨A3, n3, c3, A4, n4, c4, rfl⟩ := has
  obtain ⟨W0, hW0⟩ : ∃ W0, W0 = (w.alloc (.cells #[.slice A1 n1 c1, .slice A2 n2 c2] 39)).alloc (.cells #[.int .i64 a.start, .slice A3 n3 c3, .slice A4 n4 c4] 41) := ⟨_, rfl⟩
  have hb0 : Below w.heap.size w W0 := by rw [hW0]; exact ((Below.refl _ _).alloc (Nat.le_refl _) _).alloc (by simp) _
  have hs0 : W0.heap.size = w.heap.size + 1 + 1 := by rw [hW0]; simp
  have x0 : W0.cell? ⟨w.heap.size, 0, none⟩ = some (.slice A1 n1 c1) := by rw [hW0]; simp
  have x1 : W0.cell? ⟨w.heap.size, 1, none⟩ = some (.slice A2 n2 c2) := by rw [hW0]; simp
  have y0 : W0.cell? ⟨w.heap.size + 1, 0, none⟩ = some (.int .i64 a.start) := by rw [hW0]; simp
  have y1 : W0.cell? ⟨w.heap.size + 1, 1, none⟩ = some (.slice A3 n3 c3) := by rw [hW0]; simp
  have y2 : W0.cell? ⟨w.heap.size + 1, 2, none⟩ = some (.slice A4 n4 c4) := by rw [hW0]; simp
  have HGW := Lib.hid (fun (W : World) (hW : Only gl (gl + 1) W0 W) => (((hgv.below hb0 (by omega)).only hW (by omega) (.inl hB0)).mono (Nat.le_refl 0) (show B0 ≤ W.heap.size by have := hW.size; omega)))
  have HAW := Lib.hid (fun (W : World) (hW : Only gl (gl + 1) W0 W) => (((hav.below hb0 (by omega)).only hW (by omega) (.inl hB0)).mono (Nat.le_refl 0) (show B0 ≤ W.heap.size by have := hW.size; omega)))
  have HL := Lib.hid (hl.below hb0)
  have HB0 := Lib.hid hb0
  have HN := Lib.hid hN
  have HGO := Lib.hid hgo
  have HA := Lib.hid ha
  have he12 := (grOk_iff.1 hgo).e12
  have HX := Lib.hid (And.intro x0 (And.intro x1 (And.intro y0 (And.intro y1 y2))))
  clear hgv hav hl hb0 hN hgo ha x0 x1 y0 y1 y2
  go_enter Try.func71, Try.ntmps71
  go_wp2_with fail
  rw [← hW0]
  have HR0 := Lib.hid (show (W0.alloc (.cells #[] 72)).ownsRow W0.heap.size 72 5 (.slice (some ⟨W0.heap.size, 0, none⟩) 0 0) (layTo g a N 0).1.length (((layTo g a N 0).1.map rawZ).flatMap cZ) from
    World.ownsRow_lit (base := W0.heap.size) (e := 72) (size := 5) W0 #[] 0 (Nat.le_refl _) (by decide) rfl)
  have hbL : Below W0.heap.size W0 (W0.alloc (.cells #[] 72)) := (Below.refl _ _).alloc (Nat.le_refl _) _
  have HL0 := Lib.hid (((HL.out.below hbL).congr (T' := fun j => (layTo g a N 0).2.getD j []) (fun _ _ => rfl) (fun j _ => by simp [layTo])))
  have HO0 := Lib.hid (Only.of_below hbL gl (gl + 1))
  rw [show w.heap.size + 1 + 1 = W0.heap.size from hs0.symm]
  have hs0a : W0.heap.size ≤ w.heap.size + 1 + 1 := Nat.le_of_eq hs0
  have hs0b : w.heap.size + 1 + 1 ≤ W0.heap.size := Nat.le_of_eq hs0.symm
  clear hW0 hbL HL hs0
  try go_wp2_with fail
  go_loopw [7, 8] (fun nx ii wr => ∃ (i gn cn : Nat) (zs : List Zr), i ≤ N.length ∧ ii = .int .i64 (i : Int) ∧ nx = .slice (some ⟨gn, 0, none⟩) (layTo g a N i).1.length cn ∧
      wr.ownsRow W0.heap.size 72 5 (.slice (some ⟨gn, 0, none⟩) (layTo g a N i).1.length cn) (layTo g a N i).1.length (((layTo g a N i).1.map rawZ).flatMap cZ) ∧
      LayV W0.heap.size wr.heap.size wr gl cl N (fun _ => 0) (fun j => (layTo g a N i).2.getD j []) zs ∧ (∀ j k, i ≤ j → N[j]? = some k → zs[j]? = some (rawZ k)) ∧ Only gl (gl + 1) W0 wr) (fun _ ii _ => N.length - (intOf ii).toNat)
  case atStart =>
    refine ⟨0, W0.heap.size, 0, N.map rawZ, Nat.zero_le _, rfl, rfl, HR0.out, ?_, fun j k _ hk => rawZ_at hk, HO0.out⟩
    exact ⟨HL0.out.row, HL0.out.len, fun i k z hk hz => by
      obtain ⟨h1, h2, h3, -⟩ := HL0.out.at_ i k z hk hz
      rw [rawZ_at hk] at hz
      injection hz with hz
      subst hz
      exact ⟨h1, h2, h3, RowV.nil _ _ _ _⟩⟩
  case round =>
    clear HR0 HL0 HO0
    obtain ⟨i, gn, cn, zs, hi, rfl, rfl, hrow, hlay, hraw, hon⟩ := hrel
    have hsz := hon.size
    by_cases hlt : i < N.length
    · have hk : N[i]? = some N[i] := List.getElem?_eq_getElem hlt
      have hkr := HN.out.rng N[i] (List.getElem_mem hlt)
      generalize N[i] = k at hk hkr
      obtain ⟨x, s⟩ := k
      simp only at hkr
      obtain ⟨z, hz, hz1, hz2, hz3, hz4, d0, d1, -⟩ := hlay.get hk
      simp only at d0 d1
      have x0 := ocell hon HX.out.1 (by omega) (.inr (by omega))
      have x1 := ocell hon HX.out.2.1 (by omega) (.inr (by omega))
      have HLF := Lib.hid (fun (W : World) (hW : Only gl (gl + 1) W0 W) => l4From_any _ g (x : Int) W (HGW.out W hW) he12)
      have hgnr := hrow.lt gn rfl
      have hgll := hlay.lt
      have HROW := Lib.hid hrow
      have HLAY := Lib.hid hlay
      have HRAW := Lib.hid hraw
      have HON := Lib.hid hon
      have HK := Lib.hid hk
      have hs4 := lt12 HA.out hkr.2
      have hii : (i : Int) < (N.length : Int) := by omega
      have hal := arcs_len (grOk_iff.1 HGO.out) (x : Int)
      have HNS := Lib.hid (layTo_succ (g := g) (a := a) hk)
      have HTA := Lib.hid (fun j (hj : j < i) => layTo_at g a N hk hi hj)
      have HTN := Lib.hid (layTo_new g a N hk hi)
      have HTP := Lib.hid (fun j hj => layTo_past g a N hi (j := j) hj)
      have HKO := Lib.hid (fun k => (rowTk_ok (grOk_iff.1 HGO.out) HA.out (layTo_ok (grOk_iff.1 HGO.out) HA.out N i) x s k).len (grOk_iff.1 HGO.out) HA.out)
      have HTL := Lib.hid (rowTk_len g a (layTo g a N i).1 x s)
      have hlr : w.heap.size < wr.heap.size := by omega
      have hgl1 : gl + 1 ≤ w.heap.size := by omega
      obtain ⟨wo, hwo⟩ : ∃ wo : World, wo = wr := ⟨_, rfl⟩
      rw [← hwo] at HROW HLAY HON hsz hgnr hgll hlr x0 x1 d0 d1 ⊢
      clear hwo hrow hlay hraw hon hk hz hz1 hz2 hz3 hz4
      go_upto_region 5 with fail
      refine F_start 7 (fun w' => w'.cell? ⟨w.heap.size, 0, none⟩ = some (.slice A1 n1 c1) ∧ w'.cell? ⟨w.heap.size, 1, none⟩ = some (.slice A2 n2 c2) ∧ w'.cell? ⟨gl, i * 5, none⟩ = some (.int .i64 (x : Int))) (by kernel_rfl) (by exact ⟨x0, x1, d0⟩) (fun hS inv => ?_)
      refine F_take (i := 0) (v := ?_) rfl (by kernel_rfl) (by kernel_rfl) (by kernel_rfl) (fun _ _ _ h => h) inv (Or.inl ⟨by rfl, ?_⟩) (by assumption) (fun invn => ?_)
      rotate_left
      · (intro w hSw; (try dsimp only at hSw); go_simp; try with_reducible rfl)
      try simp only [List.getElem_toArray, List.getElem_cons_zero, List.getElem_cons_succ, Act.put, List.setIfInBounds_toArray, List.set_cons_zero, List.set_cons_succ]
      clear inv
      have inv := invn
      clear invn
      refine F_take (i := 1) (v := ?_) rfl (by kernel_rfl) (by kernel_rfl) (by kernel_rfl) (fun _ _ _ h => h) inv (Or.inl ⟨by rfl, ?_⟩) (by assumption) (fun invn => ?_)
      rotate_left
      · (intro w hSw; (try dsimp only at hSw); go_simp; try with_reducible rfl)
      try simp only [List.getElem_toArray, List.getElem_cons_zero, List.getElem_cons_succ, Act.put, List.setIfInBounds_toArray, List.set_cons_zero, List.set_cons_succ]
      clear inv
      have inv := invn
      clear invn
      refine F_take (i := 2) (v := ?_) rfl (by kernel_rfl) (by kernel_rfl) (by kernel_rfl) (fun _ _ _ h => h) inv (Or.inl ⟨by rfl, ?_⟩) (by assumption) (fun invn => ?_)
      rotate_left
      · (intro w hSw; (try dsimp only at hSw); go_simp; try with_reducible rfl)
      try simp only [List.getElem_toArray, List.getElem_cons_zero, List.getElem_cons_succ, Act.put, List.setIfInBounds_toArray, List.set_cons_zero, List.set_cons_succ]
      clear inv
      have inv := invn
      clear invn
      refine F_take (i := 3) (v := ?_) rfl (by kernel_rfl) (by kernel_rfl) (by kernel_rfl) (fun _ _ _ h => h) inv (Or.inl ⟨by rfl, ?_⟩) (by assumption) (fun invn => ?_)
      rotate_left
      · (intro w hSw; (try dsimp only at hSw); go_simp; try with_reducible rfl)
      try simp only [List.getElem_toArray, List.getElem_cons_zero, List.getElem_cons_succ, Act.put, List.setIfInBounds_toArray, List.set_cons_zero, List.set_cons_succ]
      clear inv
      have inv := invn
      clear invn
      refine F_take (i := 4) (v := ?_) rfl (by kernel_rfl) (by kernel_rfl) (by kernel_rfl) (fun _ _ _ h => h) inv (Or.inl ⟨by rfl, ?_⟩) (by assumption) (fun invn => ?_)
      rotate_left
      · (intro w hSw; (try dsimp only at hSw); go_simp; try with_reducible rfl)
      try simp only [List.getElem_toArray, List.getElem_cons_zero, List.getElem_cons_succ, Act.put, List.setIfInBounds_toArray, List.set_cons_zero, List.set_cons_succ]
      clear inv
      have inv := invn
      clear invn
      refine F_take (i := 5) (v := ?_) rfl (by kernel_rfl) (by kernel_rfl) (by kernel_rfl) (fun _ _ _ h => h) inv (Or.inl ⟨by rfl, ?_⟩) (by assumption) (fun invn => ?_)
      rotate_left
      · (intro w hSw; (try dsimp only at hSw); go_simp; try with_reducible rfl)
      try simp only [List.getElem_toArray, List.getElem_cons_zero, List.getElem_cons_succ, Act.put, List.setIfInBounds_toArray, List.set_cons_zero, List.set_cons_succ]
      clear inv
      have inv := invn
      clear invn
      refine F_one (i := 6) (by kernel_rfl) rfl rfl (by omega) inv (fun K hK => ?_)
      try simp only [List.getElem_toArray, List.getElem_cons_zero, List.getElem_cons_succ]
      go_simp
      refine (HLF.out _ HON.out.drew).mono ?_
      rintro en w1 ⟨v1, rfl, ho1, hb1⟩
      have hbD := below_trans ((Below.refl wo.heap.size wo).drew) hb1
      obtain ⟨A6, c6, rfl, hl6, hm6, -⟩ := ho1.form cSt_len
      rw [List.length_map] at ho1 hl6
      have HO1 := Lib.hid (show Own wo.heap.size w1.heap.size w1 96 cSt 2 (.slice A6 (arcsOf g (x : Int)).length c6) ((arcsOf g (x : Int)).map (·.1)) from ho1)
      clear ho1
      refine hK.out _ _ (kB3 hb1 hS) (fun hSn invn => ?_)
      try simp only [List.getElem_toArray, List.getElem_cons_zero, List.getElem_cons_succ, Act.put, List.setIfInBounds_toArray, List.set_cons_zero, List.set_cons_succ]
      clear hK K inv hS
      have inv := invn
      have hS := hSn
      clear invn hSn
      refine F_last (i := 7) (by kernel_rfl) rfl rfl (by omega) (by kernel_rfl) (fun K hK => ?_)
      go_simp
      refine hK _ _ ?_
      clear hK K inv hS
      try simp only [List.length_map]
      obtain ⟨nA, hnA⟩ : ∃ nA, nA = (arcsOf g (x : Int)).length := ⟨_, rfl⟩
      have hnA2 := hnA
      rw [← hnA] at HO1 hl6 ⊢
      have hnA3 : nA ≤ 24 := by omega
      have HNA := Lib.hid hnA2
      have hsD := hbD.size
      have HON1 := Lib.hid (HON.out.trans (Only.of_below hbD gl (gl + 1)))
      have HLR := Lib.hid (LayR.start (HLAY.out.below hbD) hsD HRAW.out)
      have HRO := Lib.hid (ownsRow_below HROW.out hbD (Nat.le_refl _))
      clear hnA hnA2 x0 x1 d0 d1 hb1 hbD HROW HLAY HRAW
      go_wp2_with fail
      go_loopw [7, 10] (fun nx kk wi => ∃ (k gm cm : Nat) (zs' : List Zr), k ≤ nA ∧ kk = .int .i64 (k : Int) ∧ nx = .slice (some ⟨gm, 0, none⟩) (rowTk g a (layTo g a N i).1 x s k).1.length cm ∧
          wi.ownsRow W0.heap.size 72 5 (.slice (some ⟨gm, 0, none⟩) (rowTk g a (layTo g a N i).1 x s k).1.length cm) (rowTk g a (layTo g a N i).1 x s k).1.length (((rowTk g a (layTo g a N i).1 x s k).1.map rawZ).flatMap cZ) ∧
          LayR W0.heap.size w1.heap.size i wi gl cl N (fun j => (layTo g a N i).2.getD j []) (rowTk g a (layTo g a N i).1 x s k).2 zs' ∧ Only gl (gl + 1) W0 wi ∧
          Own wo.heap.size w1.heap.size wi 96 cSt 2 (.slice A6 nA c6) ((arcsOf g (x : Int)).map (·.1)) ∧ w1.heap.size ≤ wi.heap.size) (fun _ kk _ => nA - (intOf kk).toNat)
      case atStart => exact ⟨0, gn, cn, zs, Nat.zero_le _, rfl, rfl, HRO.out, HLR.out, HON1.out, HO1.out, Nat.le_refl _⟩
      case round =>
        clear HRO HLR HON1 HO1
        obtain ⟨k, gm, cm, zs', hk', rfl, rfl, hrow, hlr', hon, hown, hsz1⟩ := hrel
        by_cases hlk : k < nA
        · have hlka : k < (arcsOf g (x : Int)).length := by rw [← HNA.out]; exact hlk
          have hyi : (arcsOf g (x : Int))[k]? = some (arcsOf g (x : Int))[k] := List.getElem?_eq_getElem hlka
          have hym := List.getElem_mem hlka
          generalize (arcsOf g (x : Int))[k] = p at hyi hym
          have hyr := arc_range (grOk_iff.1 HGO.out) hym
          obtain ⟨e, he, hel, het⟩ := arc_stepEd HGO.out hym
          have HY := Lib.hid hyi
          have HRS := Lib.hid (rowTk_succ (a := a) (N := (layTo g a N i).1) (s := s) hyi)
          have hko := HKO.out k
          have htl := HTL.out k
          obtain ⟨⟨sid, sinv⟩, l, t⟩ := p
          simp only at hyr he hel het
          obtain ⟨l, rfl⟩ := Int.eq_ofNat_of_zero_le hyr.1.1
          obtain ⟨t, rfl⟩ := Int.eq_ofNat_of_zero_le hyr.2.1
          have HNX := Lib.hid (fun (W : World) (hW : Only gl (gl + 1) W0 W) => by
            have h := l18Next_any _ _ g a x s (sid, sinv) e l W (HGW.out W hW) (HAW.out W hW) HGO.out HA.out hkr.1 hkr.2 he hel
            rw [het] at h
            exact h)
          have hMl := aft_lt HA.out s (valAt g x) l
          have hM4 := lt12 HA.out hMl
          have HAL0 := Lib.hid (fun (h : aft a s (valAt g x) l = 0) => show arcL g a x s (rowTk g a (layTo g a N i).1 x s k) ((sid, sinv), (l : Int), (t : Int)) = rowTk g a (layTo g a N i).1 x s k by rw [arcL]; simp [h])
          have HALs := Lib.hid (fun (h : aft a s (valAt g x) l ≠ 0) (i0 : Nat) (hf : findK (rowTk g a (layTo g a N i).1 x s k).1 (t, aft a s (valAt g x) l) = some i0) => show arcL g a x s (rowTk g a (layTo g a N i).1 x s k) ((sid, sinv), (l : Int), (t : Int)) = ((rowTk g a (layTo g a N i).1 x s k).1, (rowTk g a (layTo g a N i).1 x s k).2 ++ [((sid, sinv), i0)]) by rw [arcL]; simp [h, hf])
          have HALn := Lib.hid (fun (h : aft a s (valAt g x) l ≠ 0) (hf : findK (rowTk g a (layTo g a N i).1 x s k).1 (t, aft a s (valAt g x) l) = none) => show arcL g a x s (rowTk g a (layTo g a N i).1 x s k) ((sid, sinv), (l : Int), (t : Int)) = ((rowTk g a (layTo g a N i).1 x s k).1 ++ [(t, aft a s (valAt g x) l)], (rowTk g a (layTo g a N i).1 x s k).2 ++ [((sid, sinv), (rowTk g a (layTo g a N i).1 x s k).1.length)]) by rw [arcL]; simp [h, hf])
          obtain ⟨st, hst⟩ : ∃ st, st = rowTk g a (layTo g a N i).1 x s k := ⟨_, rfl⟩
          rw [← hst] at HRS hko htl HAL0 HALs HALn hrow hlr' ⊢
          obtain ⟨z, hz, hz1, hz2, hz3, hz4, d0, d1, d2, d3, d4⟩ := hlr'.get HK.out
          simp only at d0 d1 hz1 hz2
          have x0 := ocell hon HX.out.1 (by omega) (.inr (by omega))
          have x1 := ocell hon HX.out.2.1 (by omega) (.inr (by omega))
          have y0 := ocell hon HX.out.2.2.1 (by omega) (.inr (by omega))
          have y1 := ocell hon HX.out.2.2.2.1 (by omega) (.inr (by omega))
          have y2 := ocell hon HX.out.2.2.2.2 (by omega) (.inr (by omega))
          have hsl := hown.sl cSt_len
          obtain ⟨b6, o6, rfl, hb6, e0, e1⟩ := hsl.stI (i := k) (x := (sid, sinv)) (by rw [List.getElem?_map, hyi]; rfl)
          simp only at e0 e1
          have hgmr := hrow.lt gm rfl
          have hgll2 := hlr'.lt
          have hszi := hon.size
          have hkk : (k : Int) < (nA : Int) := by omega
          have hb6w : b6 < wr.heap.size := by omega
          have lw0 : w.heap.size < wr.heap.size := by omega
          have lw1 : w.heap.size + 1 < wr.heap.size := by omega
          have HROW := Lib.hid hrow
          have HLR := Lib.hid hlr'
          have HON := Lib.hid hon
          have HOWN := Lib.hid hown
          have HZ := Lib.hid (And.intro hz (And.intro hz1 (And.intro hz2 (And.intro hz3 hz4))))
          obtain ⟨M, hM⟩ : ∃ M, M = aft a s (valAt g x) l := ⟨_, rfl⟩
          rw [← hM] at HNX hMl hM4 HAL0 HALs HALn
          clear hst hrow hlr' hon hown hyi hym he hel het hz hz1 hz2 hz3 hz4 hsl hM
          go_upto_region 9 with fail
          refine wp_region_ext_lit (by kernel_rfl) (by kernel_rfl) ?_
          repeat (go_big_quiet_step ((go_at_call 67; exact Calls.ext_of (HNX.out _ (HON.out.trans (Only.of_below (ext_below _ _) gl (gl + 1)))))))
          refine wpQuiet_nil ?_
          intro _ hw'
          obtain ⟨u2, hw''⟩ := hw'
          subst hw''
          have hbX := ext_below wr u2
          have HROX := Lib.hid (ownsRow_below HROW.out hbX (Nat.le_refl _))
          have HLRX := Lib.hid (HLR.out.below hbX)
          have HONX := Lib.hid (HON.out.trans (Only.of_below hbX gl (gl + 1)))
          have HOWX := Lib.hid (HOWN.out.below (B := wr.heap.size) hbX (by omega))
          have hsX := hbX.size
          by_cases hM0 : M = 0
          · have HE := Lib.hid (HRS.out.trans (HAL0.out hM0))
            subst hM0
            clear HAL0 HALs HALn HRS hbX
            go_wp2_with fail
            go_roundw
            case rel => exact ⟨k + 1, gm, cm, zs', by omega, by go_num, by rw [HE.out], by rw [HE.out]; exact HROX.out, by rw [HE.out]; exact HLRX.out, HONX.out, HOWX.out, by omega⟩
            case measure => simp [intOf]; omega
          · have hMi : ((M : Int) == 0) = false := by simp; omega
            have hMi2 : decide ((M : Int) = 0) = false := by simp; omega
            have hfd := l19Find_any (.slice (some ⟨gm, 0, none⟩) st.1.length cm) st.1 t M (ext wr u2) (((Own.of_row (xs := st.1.map rawZ) HROX.out (by simp) rfl).sl cZ_len).all (Nat.le_refl _))
            have HFD := Lib.hid hfd
            obtain ⟨wx, hwx⟩ : ∃ wx, wx = ext wr u2 := ⟨_, rfl⟩
            rw [← hwx] at HFD HROX HLRX HONX HOWX hsX ⊢
            clear hfd hbX hwx HAL0 HROW HLR HON HOWN HNX x0 x1 y0 y1 y2 d0 d1 d2 d3 d4 e0 e1 HZ
            go_wp2_with fail
            refine HFD.out.mono ?_
            rintro en w9 ⟨rfl, hw9⟩
            rw [hw9]
            clear hw9 HFD
            go_upto_if 62 with fail
            go_cut [13, 7] (fun at' nx wy => ∃ (i0 gy cy : Nat) (N' : List Key), at' = .int .i64 (i0 : Int) ∧ nx = .slice (some ⟨gy, 0, none⟩) N'.length cy ∧ arcL g a x s st ((sid, sinv), (l : Int), (t : Int)) = (N', st.2 ++ [((sid, sinv), i0)]) ∧
                wy.ownsRow W0.heap.size 72 5 (.slice (some ⟨gy, 0, none⟩) N'.length cy) N'.length ((N'.map rawZ).flatMap cZ) ∧ Only gm (gm + 1) wx wy)
            case first =>
              cases hf : findK st.1 (t, M) with
              | some i0 =>
                have hfi : findI st.1 (t, M) = (i0 : Int) := by rw [findI, hf]
                have HAL := Lib.hid (HALs.out hM0 i0 hf)
                rw [hfi]
                clear hfi hf HALs HALn
                go_wp2_with fail
                go_meet
                exact ⟨i0, gm, cm, st.1, rfl, rfl, HAL.out, HROX.out, Only.refl _ _ _⟩
              | none =>
                have hfi : findI st.1 (t, M) = -1 := by rw [findI, hf]
                have HAL := Lib.hid (HALn.out hM0 hf)
                rw [hfi]
                clear hfi hf HALs HALn
                have HROX' := Lib.hid (show wx.ownsRow W0.heap.size 72 5 (.slice (some ⟨gm, 0, none⟩) st.1.length cm) (st.1.map rawZ).length ((st.1.map rawZ).flatMap cZ) by rw [List.length_map]; exact HROX.out)
                have hml : (st.1.map rawZ).length ≤ 20480 := by rw [List.length_map]; exact hko
                go_wp2_with (at_builtin; (refine wpList_append1 cZ elZ rfl _ _ rfl W0.heap.size _ (st.1.map rawZ) (rawZ (t, M)) _ 1 _ (by rfl) HROX'.out (by rfl) rfl rfl rfl (rawZ_one _) (by omega) (by omega) (by omega) ?_); intro v8 w8 hrow8 hb8 hat8 hgr8)
                obtain ⟨gS, cS, rfl, -, -, -, -⟩ := own_some hrow8 (by simp)
                go_meet
                exact ⟨st.1.length, gS, cS, st.1 ++ [(t, M)], rfl, by simp, HAL.out, by simpa using hrow8, only_row hgr8⟩
            case rest =>
              obtain ⟨i0, gy, cy, N', rfl, rfl, hal2, hrowy, hony⟩ := hcut
              have hsy := hony.size
              have hLRY := HLRX.out.other HROX.out (by omega) hsy (fun b hb hl => hony.block b hl (by omega))
              have hOWY := HOWX.out.blocks (fun b hb => hony.block b (HOWX.out.lt b hb).2.2 (by
                have := own_ne HOWX.out.1 HROX.out (Ne.symm tyZS) hb
                simp only [Value.ownBlock, ne_eq, Option.some.injEq] at this
                omega))
              have hONY := only_new HONX.out hony hgmr.1
              obtain ⟨z, hz, hz1, hz2, hz3, hz4, d0, d1, d2, d3, d4⟩ := hLRY.get HK.out
              simp only at hz1 hz2 d0 d1
              obtain ⟨b7, o7, eA, -, e0, e1⟩ := (hOWY.sl cSt_len).stI (i := k) (x := (sid, sinv)) (by rw [List.getElem?_map, HY.out]; rfl)
              simp only [Option.some.injEq, Addr.mk.injEq, and_true] at eA
              obtain ⟨rfl, rfl⟩ := eA
              simp only at e0 e1
              have hgly := hLRY.lt
              have hgyl := (hrowy.lt gy rfl)
              have HE := Lib.hid (HRS.out.trans hal2)
              have HROY := Lib.hid hrowy
              have HLRY := Lib.hid hLRY
              have HOWY := Lib.hid hOWY
              have HONY := Lib.hid hONY
              have hosv := hz4.1
              have hotv := hz4.2
              clear hz hz1 hz2 hz3 hz4
              generalize z.sv = sv at *
              generalize z.tv = tv at *
              obtain ⟨As, ns, cs, rfl⟩ := hosv.shape
              obtain ⟨At, nt, ct, rfl⟩ := hotv.shape
              have HZ := Lib.hid (And.intro hosv hotv)
              have hwcs : w1.heap.size ≤ wc.heap.size := by omega
              clear hal2 hrowy hony hLRY hOWY hONY hosv hotv HALs HALn HRS HROX HLRX HONX HOWX
              have hz4 := HZ.out
              obtain ⟨wz, hwz⟩ : ∃ wz, wz = wc.alloc (.cells #[.int .i64 (x : Int), .int .i64 (s : Int), .int .i64 0, .slice As ns cs, .slice At nt ct] 72) := ⟨_, rfl⟩
              have hbZ : Below wc.heap.size wc wz := by rw [hwz]; exact (Below.refl _ _).alloc (Nat.le_refl _) _
              have hbk : Blk wz wc.heap.size 72 #[.int .i64 (x : Int), .int .i64 (s : Int), .int .i64 0, .slice As ns cs, .slice At nt ct] := by rw [hwz]; exact Blk.new _ _ _ _ rfl
              have hszz := hbk.lt
              have hsv := hz4.1.below hbZ (Nat.le_refl _)
              have htv := hz4.2.below hbZ (Nat.le_refl _)
              have hsvl : ∀ b, (Value.slice As ns cs).ownBlock = some b → w1.heap.size ≤ b ∧ b < wc.heap.size := fun b hb => ⟨(hsv.lt b hb).1, (hsv.lt b hb).2.1⟩
              have htvl : ∀ b, (Value.slice At nt ct).ownBlock = some b → w1.heap.size ≤ b ∧ b < wc.heap.size := fun b hb => ⟨(htv.lt b hb).1, (htv.lt b hb).2.1⟩
              have hstv : ∀ b, (Value.slice At nt ct).ownBlock = some b → (Value.slice As ns cs).ownBlock ≠ some b := fun b hb => own_ne htv.1 hsv.1 (Ne.symm tySI) hb
              have hnsv : (Value.slice As ns cs).ownBlock ≠ some gy := by
                intro e
                exact own_ne hz4.1.1 HROY.out (Ne.symm tyZS) e rfl
              have hntv : (Value.slice At nt ct).ownBlock ≠ some gy := by
                intro e
                exact own_ne hz4.2.1 HROY.out (Ne.symm tyZI) e rfl
              have b3 : wz.cell? ⟨wc.heap.size, 3, none⟩ = some (.slice As ns cs) := hbk.cell 3
              have e0 := kcell hbZ e0
              have e1 := kcell hbZ e1
              have hTl : (st.2.map (·.1)).length ≤ 24 := by rw [List.length_map]; omega
              have hTl2 : (st.2.map (·.2)).length ≤ 24 := by rw [List.length_map]; omega
              have HSV := Lib.hid hsv
              have HTV := Lib.hid htv
              have HBK := Lib.hid hbk
              have HBZ := Lib.hid hbZ
              have HSVL := Lib.hid (And.intro hsvl (And.intro htvl (And.intro hstv (And.intro hnsv hntv))))
              have lb6 : b6 < wz.heap.size := by omega
              clear hsv htv hbk hbZ hsvl htvl hstv hnsv hntv hz4
              go_upto_region 16 with fail
              rw [← hwz]
              have HD := Lib.hid (And.intro d0 (And.intro d1 (And.intro d2 (And.intro d3 d4))))
              clear hwz d0 d1 d2 d3 d4
              refine F_start 9 (fun w' => w'.cell? ⟨wc.heap.size, 3, none⟩ = some (.slice As ns cs) ∧ w'.cell? ⟨b6, o6 + k * 2, none⟩ = some (.int .i64 sid) ∧ w'.cell? ⟨b6, o6 + k * 2 + 1, none⟩ = some (.bool sinv)) (by kernel_rfl) (by exact ⟨b3, e0, e1⟩) (fun hS inv => ?_)
              refine F_take (i := 0) (v := ?_) rfl (by kernel_rfl) (by kernel_rfl) (by kernel_rfl) (fun _ _ _ h => h) inv (Or.inl ⟨by rfl, ?_⟩) (by assumption) (fun invn => ?_)
              rotate_left
              · (intro w hSw; (try dsimp only at hSw); go_simp; try with_reducible rfl)
              try simp only [List.getElem_toArray, List.getElem_cons_zero, List.getElem_cons_succ, Act.put, List.setIfInBounds_toArray, List.set_cons_zero, List.set_cons_succ]
              clear inv
              have inv := invn
              clear invn
              refine F_take (i := 1) (v := ?_) rfl (by kernel_rfl) (by kernel_rfl) (by kernel_rfl) (fun _ _ _ h => h) inv (Or.inl ⟨by rfl, ?_⟩) (by assumption) (fun invn => ?_)
              rotate_left
              · (intro w hSw; (try dsimp only at hSw); go_simp; try with_reducible rfl)
              try simp only [List.getElem_toArray, List.getElem_cons_zero, List.getElem_cons_succ, Act.put, List.setIfInBounds_toArray, List.set_cons_zero, List.set_cons_succ]
              clear inv
              have inv := invn
              clear invn
              refine F_take (i := 2) (v := ?_) rfl (by kernel_rfl) (by kernel_rfl) (by kernel_rfl) (fun _ _ _ h => h) inv (Or.inl ⟨by rfl, ?_⟩) (by assumption) (fun invn => ?_)
              rotate_left
              · (intro w hSw; (try dsimp only at hSw); go_simp; try with_reducible rfl)
              try simp only [List.getElem_toArray, List.getElem_cons_zero, List.getElem_cons_succ, Act.put, List.setIfInBounds_toArray, List.set_cons_zero, List.set_cons_succ]
              clear inv
              have inv := invn
              clear invn
              refine F_take (i := 3) (v := ?_) rfl (by kernel_rfl) (by kernel_rfl) (by kernel_rfl) (fun _ _ _ h => h) inv (Or.inl ⟨by rfl, ?_⟩) (by assumption) (fun invn => ?_)
              rotate_left
              · (intro w hSw; (try dsimp only at hSw); go_simp; try with_reducible rfl)
              try simp only [List.getElem_toArray, List.getElem_cons_zero, List.getElem_cons_succ, Act.put, List.setIfInBounds_toArray, List.set_cons_zero, List.set_cons_succ]
              clear inv
              have inv := invn
              clear invn
              refine F_take (i := 4) (v := ?_) rfl (by kernel_rfl) (by kernel_rfl) (by kernel_rfl) (fun _ _ _ h => h) inv (Or.inl ⟨by rfl, ?_⟩) (by assumption) (fun invn => ?_)
              rotate_left
              · (intro w hSw; (try dsimp only at hSw); go_simp; try with_reducible rfl)
              try simp only [List.getElem_toArray, List.getElem_cons_zero, List.getElem_cons_succ, Act.put, List.setIfInBounds_toArray, List.set_cons_zero, List.set_cons_succ]
              clear inv
              have inv := invn
              clear invn
              refine F_take (i := 5) (v := ?_) rfl (by kernel_rfl) (by kernel_rfl) (by kernel_rfl) (fun _ _ _ h => h) inv (Or.inl ⟨by rfl, ?_⟩) (by assumption) (fun invn => ?_)
              rotate_left
              · (intro w hSw; (try dsimp only at hSw); go_simp; try with_reducible rfl)
              try simp only [List.getElem_toArray, List.getElem_cons_zero, List.getElem_cons_succ, Act.put, List.setIfInBounds_toArray, List.set_cons_zero, List.set_cons_succ]
              clear inv
              have inv := invn
              clear invn
              refine F_one (i := 6) (by kernel_rfl) rfl rfl (by omega) inv (fun K hK => ?_)
              try simp only [List.getElem_toArray, List.getElem_cons_zero, List.getElem_cons_succ]
              go_simp
              refine hK.out _ _ (kA3 _ hS) (fun hSn invn => ?_)
              try simp only [List.getElem_toArray, List.getElem_cons_zero, List.getElem_cons_succ, Act.put, List.setIfInBounds_toArray, List.set_cons_zero, List.set_cons_succ]
              clear hK K inv hS
              have inv := invn
              have hS := hSn
              clear invn hSn
              refine F_one (i := 7) (by kernel_rfl) rfl rfl (by omega) inv (fun K hK => ?_)
              try simp only [List.getElem_toArray, List.getElem_cons_zero, List.getElem_cons_succ]
              refine op_append1 cSt elStL rfl _ _ (by rfl) w1.heap.size (.slice As ns cs) (st.2.map (fun e : St × Nat => e.1)) (sid, sinv) 1 _ (by rfl) (show ((wz.alloc (.cells #[.int .i64 sid, .bool sinv] 96)).drew).ownsRow w1.heap.size 96 2 (.slice As ns cs) (st.2.map (fun e : St × Nat => e.1)).length ((st.2.map (fun e : St × Nat => e.1)).flatMap cSt) from HSV.out.1.alloc _) (by first | rfl | simp) (heap_alloc_new _ _) rfl (cSt_one _) (by omega) (by omega) (by simp; omega) ?_
              intro g2 cp2 w3 hown3 hgr3 hat3 hlt3
              have hsvl := HSVL.out.1
              have g3 : ∀ b, b < wz.heap.size → (Value.slice As ns cs).ownBlock ≠ some b → w3.heap[b]? = wz.heap[b]? := fun b hb hn => (hgr3.block b (by simp; omega) (fun e => hn e.symm)).trans (Below.heap_alloc wz _ b hb)
              have hs3 : wz.heap.size < w3.heap.size := by have := hgr3.size; simp at this; omega
              have hbk3 : Blk w3 wc.heap.size 72 #[.int .i64 (x : Int), .int .i64 (s : Int), .int .i64 0, .slice As ns cs, .slice At nt ct] := (g3 wc.heap.size hszz (fun e => by have := hsvl _ e; omega)).trans HBK.out
              have b3' : w3.cell? ⟨wc.heap.size, 3, none⟩ = some (.slice As ns cs) := hbk3.cell 3
              have f3' := hbk3.frozen 3
              have l3' := hbk3.lt
              refine hK.out _ _ (⟨hgr3.cell hS.1 (fun e => by have := hsvl _ e.symm; simp only at this; omega), hgr3.cell hS.2.1 (fun e => by have := hsvl _ e.symm; simp only at this; omega), hgr3.cell hS.2.2 (fun e => by have := hsvl _ e.symm; simp only at this; omega)⟩) (fun hSn invn => ?_)
              try simp only [List.getElem_toArray, List.getElem_cons_zero, List.getElem_cons_succ, Act.put, List.setIfInBounds_toArray, List.set_cons_zero, List.set_cons_succ]
              clear hK K inv hS
              have inv := invn
              have hS := hSn
              clear invn hSn
              refine F_take (i := 8) (v := ?_) rfl (by kernel_rfl) (by kernel_rfl) (by kernel_rfl) (fun _ _ _ h => h) inv (Or.inl ⟨by rfl, ?_⟩) (by assumption) (fun invn => ?_)
              rotate_left
              · (intro w hSw; (try dsimp only at hSw); go_simp; try with_reducible rfl)
              try simp only [List.getElem_toArray, List.getElem_cons_zero, List.getElem_cons_succ, Act.put, List.setIfInBounds_toArray, List.set_cons_zero, List.set_cons_succ]
              clear inv
              have inv := invn
              clear invn
              refine F_last (i := 9) (by kernel_rfl) rfl rfl (by omega) (by kernel_rfl) (fun K hK => ?_)
              go_simp
              refine hK _ _ ?_
              clear hK K inv hS
              rw [List.length_map] at hown3
              obtain ⟨-, htvl, hstv, hnsv, hntv⟩ := HSVL.out
              obtain ⟨w4, hw4⟩ : ∃ w4, w4 = w3.setCell ⟨wc.heap.size, 3, none⟩ (.slice (some ⟨g2, 0, none⟩) (st.2.length + 1) cp2) := ⟨_, rfl⟩
              have hbk4 : Blk w4 wc.heap.size 72 #[.int .i64 (x : Int), .int .i64 (s : Int), .int .i64 0, .slice (some ⟨g2, 0, none⟩) (st.2.length + 1) cp2, .slice At nt ct] := by
                have h := hbk3.set_ 3 (.slice (some ⟨g2, 0, none⟩) (st.2.length + 1) cp2)
                rw [← hw4] at h
                simpa using h
              have hs4w : w3.heap.size = w4.heap.size := by rw [hw4]; simp [World.setCell]
              have g4 : ∀ b, b < wz.heap.size → (Value.slice As ns cs).ownBlock ≠ some b → b ≠ wc.heap.size → w4.heap[b]? = wz.heap[b]? := fun b hb hn hne => by
                rw [hw4]; exact (Below.heap_setCell w3 ⟨wc.heap.size, 3, none⟩ _ b hne).trans (g3 b hb hn)
              have hg2 : w1.heap.size ≤ g2 ∧ g2 ≠ wc.heap.size := by
                rcases hat3 with h | h
                · have := hsvl g2 h; omega
                · simp at h; omega
              have hsv4 : w4.ownsRow w1.heap.size 96 2 (Value.slice (some ⟨g2, 0, none⟩) (st.2.length + 1) cp2) ((st.2.map (fun e : St × Nat => e.1)) ++ [(sid, sinv)]).length (((st.2.map (fun e : St × Nat => e.1)) ++ [(sid, sinv)]).flatMap cSt) :=
                ownsRow_block hown3 (fun b hb => by
                  have : g2 = b := by simpa [Value.ownBlock] using hb
                  rw [hw4]; exact Below.heap_setCell w3 ⟨wc.heap.size, 3, none⟩ _ b (by rw [← this]; exact hg2.2))
              have htv4 : w4.ownsRow w1.heap.size 3 1 (.slice At nt ct) (st.2.map (fun e : St × Nat => e.2)).length ((st.2.map (fun e : St × Nat => e.2)).flatMap cN) := ownsRow_block HTV.out.1 (fun b hb => g4 b (HTV.out.lt b hb).2.2 (hstv b hb) (by have := htvl b hb; omega))
              have hbl4 : Below w1.heap.size wc w4 := by
                rw [hw4]
                have h1 : Below w1.heap.size wc ((wz.alloc (.cells #[.int .i64 sid, .bool sinv] 96)).drew) := ((HBZ.out.mono hwcs).alloc (by omega) _).drew
                exact (h1.grown hgr3 (by simp; omega) (fun b hb => (hsvl b hb).1)).setCell (by simp only; omega) _
              have b4 : w4.cell? ⟨wc.heap.size, 4, none⟩ = some (.slice At nt ct) := hbk4.cell 4
              have l4 := hbk4.lt
              have HSV4 := Lib.hid hsv4
              have HTV4 := Lib.hid htv4
              have HBK4 := Lib.hid hbk4
              have HBL4 := Lib.hid hbl4
              have HG4 := Lib.hid g4
              have HG2 := Lib.hid hg2
              have hws : w1.heap.size ≤ w4.heap.size := by omega
              have hwz4 : wz.heap.size ≤ w4.heap.size := by omega
              rw [← hw4]
              clear hw4 hsv4 htv4 hbk4 hbl4 g4 hg2 hbk3 b3' f3' l3' g3 hown3 hgr3 hat3 hlt3 hsvl htvl hstv hnsv hntv HSV HTV HBK
              go_upto_region 18 with (at_builtin; (refine wpList_append1 cN elNL rfl _ _ rfl w1.heap.size _ (st.2.map (fun e : St × Nat => e.2)) i0 _ 1 _ (by rfl) HTV4.out (by rfl) rfl rfl rfl (cN_one _) (by omega) (by omega) (by omega) ?_); intro v6 w6 hrow6 hb6' hat6 hgr6; obtain ⟨g6, cp6, rfl, hg6a, hg6b, -, -⟩ := own_some hrow6 (by simp); have hbk6 : Blk w6 wc.heap.size 72 #[.int .i64 (x : Int), .int .i64 (s : Int), .int .i64 0, .slice (some ⟨g2, 0, none⟩) (st.2.length + 1) cp2, .slice At nt ct] := (hgr6.block wc.heap.size (by simp; omega) (fun e => by have := HSVL.out.2.1 _ e.symm; omega)).trans ((Below.heap_alloc w4 _ _ l4).trans HBK4.out); have b46 : w6.cell? ⟨wc.heap.size, 4, none⟩ = some (.slice At nt ct) := hbk6.cell 4; have f46 := hbk6.frozen 4; have l46 := hbk6.lt)
              obtain ⟨hsvl, htvl, hstv, hnsv, hntv⟩ := HSVL.out
              have hrow6' : w6.ownsRow w1.heap.size 3 1 (Value.slice (some ⟨g6, 0, none⟩) (st.2.length + 1) cp6) ((st.2.map (fun e : St × Nat => e.2)) ++ [i0]).length (((st.2.map (fun e : St × Nat => e.2)) ++ [i0]).flatMap cN) := by
                have h := hrow6
                rw [show ((st.2.map (fun e : St × Nat => e.2)) ++ [i0]).length = st.2.length + 1 by simp] at h ⊢
                exact h
              obtain ⟨w7, hw7⟩ : ∃ w7, w7 = w6.setCell ⟨wc.heap.size, 4, none⟩ (.slice (some ⟨g6, 0, none⟩) (st.2.length + 1) cp6) := ⟨_, rfl⟩
              have hbk7 : Blk w7 wc.heap.size 72 #[.int .i64 (x : Int), .int .i64 (s : Int), .int .i64 0, (.slice (some ⟨g2, 0, none⟩) (st.2.length + 1) cp2), (.slice (some ⟨g6, 0, none⟩) (st.2.length + 1) cp6)] := by
                have h := hbk6.set_ 4 (.slice (some ⟨g6, 0, none⟩) (st.2.length + 1) cp6)
                rw [← hw7] at h
                simpa using h
              have hs6 : w4.heap.size ≤ w6.heap.size := by have := hgr6.size; simp at this; omega
              have hs7 : w6.heap.size = w7.heap.size := by rw [hw7]; simp [World.setCell]
              have g7 : ∀ b, b < w4.heap.size → (Value.slice At nt ct).ownBlock ≠ some b → b ≠ wc.heap.size → w7.heap[b]? = w4.heap[b]? := fun b hb hn hne => by
                rw [hw7]; exact (Below.heap_setCell w6 ⟨wc.heap.size, 4, none⟩ _ b hne).trans ((hgr6.block b (by simp; omega) (fun e => hn e.symm)).trans (Below.heap_alloc w4 _ b hb))
              have hg6 : g6 ≠ wc.heap.size := by
                rcases hat6 with h | ⟨g', h, h'⟩
                · have := htvl g6 h.symm; omega
                · simp [Value.ownBlock] at h; omega
              have hsv7 : w7.ownsRow w1.heap.size 96 2 (.slice (some ⟨g2, 0, none⟩) (st.2.length + 1) cp2) ((st.2.map (fun e : St × Nat => e.1)) ++ [(sid, sinv)]).length (((st.2.map (fun e : St × Nat => e.1)) ++ [(sid, sinv)]).flatMap cSt) :=
                ownsRow_block HSV4.out (fun b hb => g7 b (HSV4.out.lt b hb).2 (own_ne HSV4.out HTV4.out tySI hb) (by
                  have : g2 = b := by simpa [Value.ownBlock] using hb
                  have := HG2.out.2; omega))
              have htv7 : w7.ownsRow w1.heap.size 3 1 (.slice (some ⟨g6, 0, none⟩) (st.2.length + 1) cp6) ((st.2.map (fun e : St × Nat => e.2)) ++ [i0]).length (((st.2.map (fun e : St × Nat => e.2)) ++ [i0]).flatMap cN) :=
                ownsRow_block hrow6' (fun b hb => by
                  have : g6 = b := by simpa [Value.ownBlock] using hb
                  rw [hw7]; exact Below.heap_setCell w6 ⟨wc.heap.size, 4, none⟩ _ b (by rw [← this]; exact hg6))
              have hbl7 : Below w1.heap.size wc w7 := by
                rw [hw7]
                exact (((HBL4.out.alloc (by omega) _).grown hgr6 (by simp; omega) (fun b hb => (htvl b hb).1)).setCell (by simp only; omega) _)
              have hglH : gl < w1.heap.size := by omega
              have hgap : ∀ b, b < w1.heap.size → b < wc.heap.size → w7.heap[b]? = wc.heap[b]? := fun b hb _ => hbl7.block b hb
              obtain ⟨hrow7, -⟩ := HLRY.out.rowTurn hglH hgap
              have hrv7 : RowV w1.heap.size w7.heap.size w7 ⟨x, s, 0, (.slice (some ⟨g2, 0, none⟩) (st.2.length + 1) cp2), (.slice (some ⟨g6, 0, none⟩) (st.2.length + 1) cp6)⟩ (st.2 ++ [((sid, sinv), i0)]) := by
                refine ⟨⟨?_, fun b hb => (hsv7.lt b hb).2⟩, ⟨?_, fun b hb => (htv7.lt b hb).2⟩⟩
                · rw [List.map_append]; exact hsv7
                · rw [List.map_append]; exact htv7
              have hput := HLRY.out.put (z := ⟨x, s, 0, (.slice (some ⟨g2, 0, none⟩) (st.2.length + 1) cp2), (.slice (some ⟨g6, 0, none⟩) (st.2.length + 1) cp6)⟩) hglH hgap HK.out rfl rfl rfl hrv7
              have hnx7 := ownsRow_block HROY.out (w' := w7) (fun b hb => by
                have e : gy = b := by simpa [Value.ownBlock] using hb
                subst e
                exact (g7 gy (by omega) hntv (by omega)).trans ((HG4.out gy (by omega) hnsv (by omega)).trans (HBZ.out.block gy hgyl.2)))
              have hnx8 := ownsRow_block hnx7 (w' := put5 w7 gl (i * 5) ⟨x, s, 0, (.slice (some ⟨g2, 0, none⟩) (st.2.length + 1) cp2), (.slice (some ⟨g6, 0, none⟩) (st.2.length + 1) cp6)⟩) (fun b hb => by
                have e : gy = b := by simpa [Value.ownBlock] using hb
                exact put5_block _ _ _ _ b (by omega))
              have hon8 := (only_past HONY.out hbl7 (show W0.heap.size ≤ w1.heap.size by omega)).trans (put5_only w7 gl (i * 5) ⟨x, s, 0, (.slice (some ⟨g2, 0, none⟩) (st.2.length + 1) cp2), (.slice (some ⟨g6, 0, none⟩) (st.2.length + 1) cp6)⟩)
              have how7 := HOWY.out.below hbl7 (Nat.le_refl _)
              have how8 := how7.blocks (w' := put5 w7 gl (i * 5) ⟨x, s, 0, (.slice (some ⟨g2, 0, none⟩) (st.2.length + 1) cp2), (.slice (some ⟨g6, 0, none⟩) (st.2.length + 1) cp6)⟩) (fun b hb => put5_block _ _ _ _ b (fun e => by
                subst e
                exact own_ne how7.1 hrow7 (Ne.symm tyZS) hb rfl))
              have hs8 := put5_size w7 gl (i * 5) ⟨x, s, 0, (.slice (some ⟨g2, 0, none⟩) (st.2.length + 1) cp2), (.slice (some ⟨g6, 0, none⟩) (st.2.length + 1) cp6)⟩
              have hs8' : w1.heap.size ≤ (put5 w7 gl (i * 5) ⟨x, s, 0, (.slice (some ⟨g2, 0, none⟩) (st.2.length + 1) cp2), (.slice (some ⟨g6, 0, none⟩) (st.2.length + 1) cp6)⟩).heap.size := by omega
              have d0 : w7.cell? ⟨gl, i * 5, none⟩ = some (.int .i64 (x : Int)) := (World.cell?_of_block (a := ⟨gl, i * 5, none⟩) (hgap gl hglH (by omega))).trans HD.out.1
              have d1 : w7.cell? ⟨gl, i * 5 + 1, none⟩ = some (.int .i64 (s : Int)) := (World.cell?_of_block (a := ⟨gl, i * 5 + 1, none⟩) (hgap gl hglH (by omega))).trans HD.out.2.1
              have d2 : w7.cell? ⟨gl, i * 5 + 2, none⟩ = some (.int .i64 0) := (World.cell?_of_block (a := ⟨gl, i * 5 + 2, none⟩) (hgap gl hglH (by omega))).trans HD.out.2.2.1
              have d3 : w7.cell? ⟨gl, i * 5 + 3, none⟩ = some (.slice As ns cs) := (World.cell?_of_block (a := ⟨gl, i * 5 + 3, none⟩) (hgap gl hglH (by omega))).trans HD.out.2.2.2.1
              have d4 : w7.cell? ⟨gl, i * 5 + 4, none⟩ = some (.slice At nt ct) := (World.cell?_of_block (a := ⟨gl, i * 5 + 4, none⟩) (hgap gl hglH (by omega))).trans HD.out.2.2.2.2
              have f0 := World.ownsRow.frozenAt hrow7 (i * 5)
              have f1 := World.ownsRow.frozenAt hrow7 (i * 5 + 1)
              have f2 := World.ownsRow.frozenAt hrow7 (i * 5 + 2)
              have f3 := World.ownsRow.frozenAt hrow7 (i * 5 + 3)
              have f4 := World.ownsRow.frozenAt hrow7 (i * 5 + 4)
              have c0 : w7.cell? ⟨wc.heap.size, 0, none⟩ = some (.int .i64 (x : Int)) := hbk7.cell 0
              have c1' : w7.cell? ⟨wc.heap.size, 1, none⟩ = some (.int .i64 (s : Int)) := hbk7.cell 1
              have c2' : w7.cell? ⟨wc.heap.size, 2, none⟩ = some (.int .i64 0) := hbk7.cell 2
              have c3' : w7.cell? ⟨wc.heap.size, 3, none⟩ = some (.slice (some ⟨g2, 0, none⟩) (st.2.length + 1) cp2) := hbk7.cell 3
              have c4' : w7.cell? ⟨wc.heap.size, 4, none⟩ = some (.slice (some ⟨g6, 0, none⟩) (st.2.length + 1) cp6) := hbk7.cell 4
              have lgl7 : gl < w7.heap.size := by omega
              have lbx7 := hbk7.lt
              have HPUT := Lib.hid hput
              have HNX8 := Lib.hid hnx8
              have HON8 := Lib.hid hon8
              have HOW8 := Lib.hid how8
              have hii2 : (i : Int) < (N.length : Int) := by omega
              rw [← hw7]
              clear hw7 hbk7 g7 hg6 hsv7 htv7 hbl7 hgap hrow7 hrv7 hput hnx7 hnx8 hon8 how7 how8 hbk6 b46 f46 l46 hrow6 hrow6' hb6' hat6 hgr6 hsvl htvl hstv hnsv hntv HSVL b4 l4 hs8
              go_wp2_with fail
              rw [show ((((w7.setCell ⟨gl, i * 5, none⟩ (.int .i64 (x : Int))).setCell ⟨gl, i * 5 + 1, none⟩ (.int .i64 (s : Int))).setCell ⟨gl, i * 5 + 2, none⟩ (.int .i64 0)).setCell ⟨gl, i * 5 + 3, none⟩ (.slice (some ⟨g2, 0, none⟩) (st.2.length + 1) cp2)).setCell ⟨gl, i * 5 + 4, none⟩ (.slice (some ⟨g6, 0, none⟩) (st.2.length + 1) cp6) = put5 w7 gl (i * 5) ⟨x, s, 0, (.slice (some ⟨g2, 0, none⟩) (st.2.length + 1) cp2), (.slice (some ⟨g6, 0, none⟩) (st.2.length + 1) cp6)⟩ from rfl]
              go_roundw
              case rel => exact ⟨k + 1, gy, cy, _, by omega, by go_num, by rw [HE.out], by rw [HE.out]; exact HNX8.out, by rw [HE.out]; exact HPUT.out, HON8.out, HOW8.out, hs8'⟩
              case measure => simp [intOf]; omega
        · obtain rfl : k = nA := by omega
          rw [HNA.out, rowTk_all] at hrow hlr' ⊢
          have hLV := hlr'.done (T' := fun j => (layTo g a N (i + 1)).2.getD j []) (by omega) hsz1 (fun j hj hjn => by
            rcases Nat.lt_or_ge j i with h | h
            · exact HTA.out j h
            · rw [HTP.out j h, layTo_past g a N (by omega) (by omega)]) HTN.out
          have HRO := Lib.hid (show wr.ownsRow W0.heap.size 72 5 (.slice (some ⟨gm, 0, none⟩) (layTo g a N (i + 1)).1.length cm) (layTo g a N (i + 1)).1.length (((layTo g a N (i + 1)).1.map rawZ).flatMap cZ) by rw [HNS.out]; exact hrow)
          have HLV := Lib.hid hLV
          have HRW := Lib.hid (show ∀ j k, i + 1 ≤ j → N[j]? = some k → zs'[j]? = some (rawZ k) from fun j k hj hk => hlr'.raw j k (by omega) hk)
          have HNS1 := Lib.hid (show (rowL g a (layTo g a N i).1 x s).1 = (layTo g a N (i + 1)).1 by rw [HNS.out])
          clear hLV hrow hlr' hown
          rw [HNS1.out]
          have hlk2 : ¬ ((arcsOf g (x : Int)).length : Int) < ((arcsOf g (x : Int)).length : Int) := by omega
          go_wp2_with fail
          go_roundw
          case rel => exact ⟨i + 1, gm, cm, zs', by omega, by go_num, rfl, HRO.out, HLV.out, HRW.out, hon⟩
          case measure => simp [intOf]; omega
    · obtain rfl : i = N.length := by omega
      have hgn := (hrow.lt gn rfl).1
      have HROW := Lib.hid (ownsRow_mono hrow (show w.heap.size ≤ W0.heap.size by omega))
      have HLAY := Lib.hid (hlay.mono (show w.heap.size ≤ W0.heap.size by omega) (Nat.le_refl _))
      have HON := Lib.hid ((Only.of_below HB0.out gl (gl + 1)).trans hon)
      clear hrow hlay hraw hon
      go_wp2_with fail
      go_ret
      exact ⟨gn, cn, zs, rfl, by omega, HROW.out, HLAY.out, HON.out⟩
end Go.Proofs.Ytlhpcknpjdeebaa

