/- The reference's product: l14Good, l14Closure, l14Letter, l14To, l4From. -/
import Derived.Test.YtmlfkledhnlkeaaBits
import Derived.Test.YtmlfkledhnlkeaaView
import Derived.Test.YtmlfkledhnlkeaaAutS
import Derived.Test.YtmlfkledhnlkeaaGraphS
import Derived.Test.YtmlfkledhnlkeaaKeep
import Derived.Test.YtmlfkledhnlkeaaHelpStep
namespace Go.Proofs.Ytmlfkledhnlkeaa
set_option linter.unusedVariables false
set_option linter.unusedSimpArgs false
open Go.ChangeShapes Go.WideShapes Go.ChangeAt Go.RowKit
attribute [local go_sem] ext_cell ext_frozen ext_lt ext_lt1 ext_lt2 ext_lt3 ltn2 ltn3 ltn13 lts1 lts2 lts3

def goodB (g : Gr) (a : Au) (x s : Int) : Bool := grOk g && (auOk a && (wi x 0 ((g.vals.length : Int) - 1) && wi s 0 ((a.accept.length : Int) - 1)))
set_option maxHeartbeats 2000000 in
theorem l14Good_any (vg va : Value) (g : Gr) (a : Au) (x s : Int) (w : World) (hgv : GrV 0 w.heap.size w vg g) (hav : AuV 0 w.heap.size w va a) :
    Calls Try.prog 66 #[vg, va, .int .i64 x, .int .i64 s] w fun e w' => e = .returned (.bool (goodB g a x s)) ∧ Below w.heap.size w w' := by
  have hgv0 := hgv
  have hav0 := hav
  obtain ⟨A1, c1, A2, c2, rfl, hl1, hm1, hl2, hm2, -, -⟩ := hgv.form
  obtain ⟨ac, nx, rfl, hac, hnx⟩ := hav
  obtain ⟨A3, c3, rfl, hl3, hm3, -⟩ := SlE.form hac
  obtain ⟨A4, n4, c4, rfl⟩ := hnx.shape
  have hb0 : Below w.heap.size w ((w.alloc (.cells #[.slice A1 g.vals.length c1, .slice A2 g.edges.length c2] 48)).alloc (.cells #[.int .i64 a.start, .slice A3 a.accept.length c3, .slice A4 n4 c4] 50)) := ((Below.refl _ _).alloc (Nat.le_refl _) _).alloc (by simp) _
  have HGV := Lib.hid hgv0
  have HAV := Lib.hid hav0
  have HWI := Lib.hid l1In_any
  have HG := Lib.hid (show goodB g a x s = (grOk g && (auOk a && (wi x 0 ((g.vals.length : Int) - 1) && wi s 0 ((a.accept.length : Int) - 1)))) from rfl)
  clear hac hnx hgv0 hav0 hgv
  cases hgo : grOk g with
  | false =>
    have hfin : goodB g a x s = false := by rw [HG.out, hgo]; rfl
    have HF := Lib.hid hfin
    have hc := specValidGraph _ g _ (HGV.out.keep hb0)
    rw [hgo] at hc
    have HC := Lib.hid hc
    clear hgo hfin hc
    go_enter Try.func66, Try.ntmps66
    go_wp2_with fail
    refine HC.out.mono ?_
    rintro e w1 ⟨rfl, hb1⟩
    go_wp2_with fail
    go_ret
    exact ⟨by rw [HF.out]; rfl, below_trans hb0 hb1⟩
  | true =>
    have hc := specValidGraph _ g _ (HGV.out.keep hb0)
    rw [hgo] at hc
    have HC := Lib.hid hc
    have HGO := Lib.hid hgo
    clear hgo hc
    cases hao : auOk a with
    | false =>
      have hfin : goodB g a x s = false := by rw [HG.out, HGO.out, hao]; rfl
      have HF := Lib.hid hfin
      have HAO := Lib.hid hao
      clear hao hfin
      go_enter Try.func66, Try.ntmps66
      go_wp2_with fail
      refine HC.out.mono ?_
      rintro e w1 ⟨rfl, hb1⟩
      obtain ⟨u1, rfl⟩ := ext_of hb1
      go_wp2_with fail
      refine (specValidAutomaton _ a _ (HAV.out.keep (below_trans hb0 hb1))).mono ?_
      rw [HAO.out]
      rintro e w2 ⟨rfl, hb2⟩
      go_wp2_with fail
      go_ret
      exact ⟨by rw [HF.out]; rfl, below_trans (below_trans hb0 hb1) hb2⟩
    | true =>
      have HAO := Lib.hid hao
      clear hao
      go_enter Try.func66, Try.ntmps66
      go_wp2_with fail
      refine HC.out.mono ?_
      rintro e w1 ⟨rfl, hb1⟩
      obtain ⟨u1, rfl⟩ := ext_of hb1
      have hb3 := below_trans hb0 hb1
      clear hb1
      go_wp2_with fail
      refine (specValidAutomaton _ a _ (HAV.out.keep hb3)).mono ?_
      rw [HAO.out]
      rintro e w2 ⟨rfl, hb2⟩
      obtain ⟨u2, rfl⟩ := ext_of (below_trans (ext_below _ u1) hb2)
      have hb4 := below_trans hb3 hb2
      clear hb2 hb3
      have hfin : goodB g a x s = (wi x 0 ((g.vals.length : Int) - 1) && wi s 0 ((a.accept.length : Int) - 1)) := by rw [HG.out, HGO.out, HAO.out]; rfl
      have HF := Lib.hid hfin
      clear hfin
      cases h1 : wi x 0 ((g.vals.length : Int) - 1) with
      | false =>
        have H1 := Lib.hid h1
        go_wp2_with (go_at_call 77; refine (HWI.out _ _ _ _).mono ?_; rintro e w1 ⟨rfl, rfl⟩)
        go_ret
        exact ⟨by rw [HF.out, H1.out]; rfl, hb4⟩
      | true =>
        have H1 := Lib.hid h1
        go_wp2_with (go_at_call 77; refine (HWI.out _ _ _ _).mono ?_; rintro e w1 ⟨rfl, rfl⟩)
        go_ret
        exact ⟨by rw [HF.out, H1.out]; rfl, hb4⟩
theorem l14Letter_any (e : Ed) (b : Bool) (w : World) (h0 : 0 ≤ e.2.2.2) (h2 : e.2.2.2 ≤ 2) :
    Calls Try.prog 151 #[.agg #[.int .i64 e.1, .int .i64 e.2.1, .int .i64 e.2.2.1, .int .i64 e.2.2.2], .bool b] w fun en w' => en = .returned (.int .i64 (arcLetter b e)) ∧ Below w.heap.size w w' := by
  obtain ⟨a, f, t, l⟩ := e
  simp only at h0 h2 ⊢
  cases b
  all_goals
    go_enter Try.func151, Try.ntmps151
    go_wp2_with fail
    go_ret
    exact ⟨rfl, (Below.refl _ _).alloc (Nat.le_refl _) _⟩
theorem l14To_any (e : Ed) (b : Bool) (w : World) :
    Calls Try.prog 152 #[.agg #[.int .i64 e.1, .int .i64 e.2.1, .int .i64 e.2.2.1, .int .i64 e.2.2.2], .bool b] w fun en w' => en = .returned (.int .i64 (arcTo b e)) ∧ Below w.heap.size w w' := by
  obtain ⟨a, f, t, l⟩ := e
  cases b
  all_goals
    go_enter Try.func152, Try.ntmps152
    go_wp2_with fail
    go_ret
    exact ⟨rfl, (Below.refl _ _).alloc (Nat.le_refl _) _⟩
set_option maxHeartbeats 1000000 in
theorem l14Closure_any (v : Value) (a : Au) (s x : Nat) (w : World) (hv : AuV 0 w.heap.size w v a) (hok : auOk a = true) (hs : s < a.accept.length) (hx : x ≤ 2) :
    Calls Try.prog 150 #[v, .int .i64 (s : Int), .int .i64 (x : Int)] w fun e w' => e = .returned (.int .i64 (cls a x s : Int)) ∧ Below w.heap.size w w' := by
  obtain ⟨A1, c1, A2, c2, rfl, hl1, hm1, hl2, hm2, hC⟩ := hv.form hok
  clear hv
  have hn12 : a.accept.length ≤ 12 := (auOk_iff.1 hok).1.2
  have hb0 : Below w.heap.size w (w.alloc (.cells #[.int .i64 a.start, .slice A1 a.accept.length c1, .slice A2 a.accept.length c2] 50)) := (Below.refl _ _).alloc (Nat.le_refl _) _
  have HOK := Lib.hid hok
  have HC := Lib.hid hC
  obtain ⟨R, hR⟩ : ∃ R, R = cls a x s := ⟨_, rfl⟩
  rw [← hR]
  have HR := Lib.hid hR
  clear hR hok hC
  go_enter Try.func150, Try.ntmps150
  go_wp2_with fail
  go_loop [1, 7] (fun ss st => ∃ (f m : Nat) (s : Int), st = .int .i64 (m : Int) ∧ ss = .int .i64 s ∧ clsF a (6 + x) f s m = R ∧ f + (mem 12 m).length = 13 ∧ m < 2 ^ a.accept.length ∧ s < (a.accept.length : Int)) (fun _ st => 13 - (mem 12 (intOf st).toNat).length)
  case atStart => exact ⟨13, 0, s, rfl, rfl, HR.out.symm, by simp [mem], Nat.two_pow_pos _, by omega⟩
  case round =>
    obtain ⟨f, m, s, rfl, rfl, hcl, hf, hm, hs⟩ := hrel
    have hm2 := lt12 HOK.out hm
    have hml := mem_len 12 m
    have HCL := Lib.hid hcl
    have HFC := Lib.hid hf
    clear hcl hf
    by_cases h0 : 0 ≤ s
    · obtain ⟨s, rfl⟩ := Int.eq_ofNat_of_zero_le h0
      have hs12 : s < 12 := by omega
      have hsn : (s : Int) < (a.accept.length : Int) := hs
      obtain ⟨b2, o2, b3, o3, c3, hA2, hb2, d2, hl3, hm3, hb3, hc3⟩ := HC.out.row s (by omega)
      subst hA2
      have d3 := hc3 (6 + x) (by omega)
      have hx9 : (6 : Int) + (x : Int) < 9 := by omega
      have e1 := shl_bit (s := s) (by omega)
      have e2 := or_ins (m := m) (s := s) (by omega) (by omega)
      clear hc3
      cases hb : m.testBit s with
      | true =>
        have e3 := bit_on (by omega) (by omega) hb
        have hfin : m = R := by rw [← HCL.out]; exact (clsF_stop (.inr (by simpa using hb))).symm
        have HF := Lib.hid hfin
        clear hfin hb h0
        go_wp2_with fail
        go_ret
        exact ⟨by rw [HF.out]; rfl, hb0⟩
      | false =>
        have e3 := bit_off (by omega) (by omega) hb
        have HB := Lib.hid hb
        have hmv := mv_lt HOK.out s (6 + x)
        clear hb h0
        go_wp2_with fail
        go_round
        case rel =>
          have h1 := cnt_or (n := 12) (m := m) hs12 HB.out
          have h2 := HFC.out
          obtain ⟨f, rfl⟩ : ∃ f', f = f' + 1 := ⟨f - 1, by omega⟩
          exact ⟨f, ins m s, _, rfl, rfl, by rw [← HCL.out]; exact (clsF_go HB.out).symm, by omega, ins_lt hm (by omega), by omega⟩
        case measure =>
          have h1 := cnt_or (n := 12) (m := m) hs12 HB.out
          simp [intOf]; omega
    · have hfin : m = R := by rw [← HCL.out]; exact (clsF_stop (.inl (by omega))).symm
      have h0' : decide (s ≥ 0) = false := by simp; omega
      have HF := Lib.hid hfin
      clear hfin
      go_wp2_with fail
      go_ret
      exact ⟨by rw [HF.out]; rfl, hb0⟩
end Go.Proofs.Ytmlfkledhnlkeaa
