/- Parts of the proof, joined into one text: SetI, ImgS, ImgI, MapB, KeyS, Seen, Shelf, Reslice, SortI, Queue. -/
import Derived.Test.YtallglnmeeahiaaPartGEEOALPK
import Derived.Test.YtallglnmeeahiaaPartKHLNNBFN
import Derived.Test.YtallglnmeeahiaaPartEHONMLDA
import Derived.Maps.OwnSet
import Derived.DeepKeys4
import Derived.Maps.Views
import Derived.Shelf.Small.Bits
import Derived.Shelf.Small.Wraps
import Derived.Shelf.Strconv.Itoa0
import Derived.Shelf.Sort.Plain
import Derived.Shelf.Bits.Mul64
import Derived.Shelf.Slices.Turned
import Derived.Ground.Names2Prog
import Derived.Shelf.Slices.CompactI
import Derived.Shelf.Slices.SearchI
import Derived.Shelf.Slices.Cells
import Derived.Shelf.Slices.In.SortNone
import Derived.Test.YtallglnmeeahiaaProg
import Derived.Test.YtallglnmeeahiaaPartLPOONNJA
/- The program's sets of states: move, closure, members, after, acceptsAt. -/
namespace Go.Proofs.Ytallglnmeeahiaa
set_option linter.unusedVariables false
set_option linter.unusedSimpArgs false
open Go.ChangeShapes Go.WideShapes Go.ChangeAt Go.RowKit
attribute [local go_sem] ext_cell ext_frozen ext_lt ext_lt1 ext_lt2 ext_lt3 ltn2 ltn3 ltn13 lts1 lts2 lts3

theorem isLetter_any (n : Int) (w : World) : Calls Try.prog 110 #[.int .i64 n] w fun e w' => e = .returned (.bool (wi n 0 8)) ∧ w' = w := by
  have HW := Lib.hid within_any
  go_enter Try.func110, Try.ntmps110
  go_wp2_with (go_at_call 39; refine (HW.out _ _ _ _).mono ?_; rintro e w' ⟨rfl, rfl⟩)
  go_ret
  exact ⟨rfl, rfl⟩

def mvI (a : Au) (s l : Int) : Int := if 0 ≤ s ∧ wi l 0 8 = true then mv a s.toNat l.toNat else -1
theorem mvI_in {a : Au} {s l : Nat} (hl : l < 9) : mvI a s l = mv a s l := by
  rw [mvI, if_pos ⟨by omega, wi_iff.2 ⟨by omega, by omega⟩⟩]; simp
set_option maxHeartbeats 1000000 in
theorem move_any (v : Value) (a : Au) (s l : Int) (w : World) (hv : AuV 0 w.heap.size w v a) (hok : auOk a = true) (hs : s < (a.accept.length : Int)) :
    Calls Try.prog 91 #[v, .int .i64 s, .int .i64 l] w fun e w' => e = .returned (.int .i64 (mvI a s l)) ∧ Below w.heap.size w w' := by
  obtain ⟨A1, c1, A2, c2, rfl, hl1, hm1, hl2, hm2, hC⟩ := hv.form hok
  have HL := Lib.hid isLetter_any
  have hb0 : Below w.heap.size w (w.alloc (.cells #[.int .i64 a.start, .slice A1 a.accept.length c1, .slice A2 a.accept.length c2] 27)) := (Below.refl _ _).alloc (Nat.le_refl _) _
  have HOK := Lib.hid hok
  clear hok hv
  by_cases h0 : s < 0
  · have hfin : mvI a s l = -1 := by rw [mvI, if_neg (by omega)]
    have HF := Lib.hid hfin
    clear hfin
    go_enter Try.func91, Try.ntmps91
    go_wp2_with fail
    go_ret
    exact ⟨by rw [HF.out]; rfl, hb0⟩
  · obtain ⟨s, rfl⟩ := Int.eq_ofNat_of_zero_le (show 0 ≤ s by omega)
    cases hl : wi l 0 8 with
    | false =>
      have hfin : mvI a s l = -1 := by rw [mvI, if_neg (by simp [hl])]
      have HF := Lib.hid hfin
      clear hfin
      go_enter Try.func91, Try.ntmps91
      go_wp2_with (go_at_call 110; refine (HL.out _ _).mono ?_; rintro e w' ⟨rfl, rfl⟩)
      go_ret
      exact ⟨by rw [HF.out]; rfl, hb0⟩
    | true =>
      have hl0 := wi_iff.1 hl
      obtain ⟨l, rfl⟩ := Int.eq_ofNat_of_zero_le hl0.1
      obtain ⟨b2, o2, b3, o3, c3, rfl, hb2, d2, hl3, hm3, hb3, hc3⟩ := hC.row s (by omega)
      have hl9 : l < 9 := by omega
      have d3 := hc3 l hl9
      have HF := Lib.hid (mvI_in (a := a) (s := s) (l := l) (by omega))
      clear hc3 hC hl0
      go_enter Try.func91, Try.ntmps91
      go_wp2_with (go_at_call 110; refine (HL.out _ _).mono ?_; rintro e w' ⟨rfl, rfl⟩)
      go_ret
      exact ⟨by rw [HF.out]; rfl, hb0⟩

set_option maxHeartbeats 1000000 in
theorem closure_any (v : Value) (a : Au) (s x : Nat) (w : World) (hv : AuV 0 w.heap.size w v a) (hok : auOk a = true) (hs : s < a.accept.length) (hx : x ≤ 2) :
    Calls Try.prog 65 #[v, .int .i64 (s : Int), .int .i64 (x : Int)] w fun e w' => e = .returned (.int .i64 (cls a x s : Int)) ∧ Below w.heap.size w w' := by
  have hv0 := hv
  obtain ⟨A1, c1, A2, c2, rfl, -⟩ := hv.form hok
  clear hv
  have hn12 : a.accept.length ≤ 12 := (auOk_iff.1 hok).1.2
  have hb0 : Below w.heap.size w (w.alloc (.cells #[.int .i64 a.start, .slice A1 a.accept.length c1, .slice A2 a.accept.length c2] 27)) := (Below.refl _ _).alloc (Nat.le_refl _) _
  have HV := Lib.hid hv0
  have HOK := Lib.hid hok
  clear hok
  obtain ⟨R, hR⟩ : ∃ R, R = cls a x s := ⟨_, rfl⟩
  rw [← hR]
  have HR := Lib.hid hR
  clear hR hv0
  go_enter Try.func65, Try.ntmps65
  go_wp2_with fail
  go_loopw [7, 8] (fun st ss wr => ∃ (f m : Nat) (s : Int) (u : World), st = .int .i64 (m : Int) ∧ ss = .int .i64 s ∧ clsF a (6 + x) f s m = R ∧ f + (mem 12 m).length = 13 ∧ m < 2 ^ a.accept.length ∧ s < (a.accept.length : Int) ∧ wr = ext (w.alloc (.cells #[.int .i64 a.start, .slice A1 a.accept.length c1, .slice A2 a.accept.length c2] 27)) u) (fun st _ _ => 13 - (mem 12 (intOf st).toNat).length)
  case atStart => exact ⟨13, 0, s, _, rfl, rfl, HR.out.symm, by simp [mem], Nat.two_pow_pos _, by omega, ext_self _⟩
  case round =>
    obtain ⟨f, m, s, u, rfl, rfl, hcl, hf, hm, hs, rfl⟩ := hrel
    have hm2 := lt12 HOK.out hm
    have hml := mem_len 12 m
    have HC := Lib.hid hcl
    have HFC := Lib.hid hf
    have hbw := below_trans hb0 (ext_below _ u)
    clear hcl hf
    by_cases h0 : 0 ≤ s
    · obtain ⟨s, rfl⟩ := Int.eq_ofNat_of_zero_le h0
      have hs12 : s < 12 := by omega
      have e1 := shl_bit (s := s) (by omega)
      have e2 := or_ins (m := m) (s := s) (by omega) (by omega)
      cases hb : m.testBit s with
      | true =>
        have e3 := bit_on (by omega) (by omega) hb
        have hfin : m = R := by rw [← HC.out]; exact (clsF_stop (.inr (by simpa using hb))).symm
        have HF := Lib.hid hfin
        clear hfin hb h0
        go_wp2_with fail
        go_ret
        exact ⟨by rw [HF.out]; rfl, hbw⟩
      | false =>
        have e3 := bit_off (by omega) (by omega) hb
        have HB := Lib.hid hb
        have hmv := mv_lt HOK.out s (6 + x)
        clear hb h0
        go_wp2_with fail
        refine (move_any _ a (s : Int) _ _ (HV.out.keep hbw) HOK.out (by omega)).mono ?_
        rintro e w1 ⟨rfl, hb1⟩
        obtain ⟨u1, rfl⟩ := ext_of (below_trans (ext_below _ u) hb1)
        rw [show (6 : Int) + (x : Int) = ((6 + x : Nat) : Int) by omega, mvI_in (by omega)]
        go_wp2_with fail
        go_roundw
        case rel =>
          have h1 := cnt_or (n := 12) (m := m) hs12 HB.out
          have h2 := HFC.out
          obtain ⟨f, rfl⟩ : ∃ f', f = f' + 1 := ⟨f - 1, by omega⟩
          refine ⟨f, ins m s, _, _, rfl, rfl, by rw [← HC.out]; exact (clsF_go HB.out).symm, by omega, ins_lt hm (by omega), by omega, rfl⟩
        case measure =>
          have h1 := cnt_or (n := 12) (m := m) hs12 HB.out
          simp [intOf]; omega
    · have hfin : m = R := by rw [← HC.out]; exact (clsF_stop (.inl (by omega))).symm
      have h0' : decide (s ≥ 0) = false := by simp; omega
      have HF := Lib.hid hfin
      clear hfin
      go_wp2_with fail
      go_ret
      exact ⟨by rw [HF.out]; rfl, hbw⟩

set_option maxHeartbeats 1000000 in
theorem members_any (m : Nat) (w : World) (hm : m < 4096) :
    Calls Try.prog 60 #[.int .i64 (m : Int)] w fun e w' => ∃ v', e = .returned v' ∧ Own w.heap.size w'.heap.size w' 3 cN 1 v' (mem 12 m) ∧ Below w.heap.size w w' := by
  obtain ⟨R, hR⟩ : ∃ R, R = mem 12 m := ⟨_, rfl⟩
  rw [← hR]
  have HR := Lib.hid hR
  clear hR
  go_enter Try.func60, Try.ntmps60
  go_wp2_with fail
  go_loopw [3, 4] (fun out ii wr => ∃ i : Nat, i ≤ 12 ∧ ii = .int .i64 (i : Int) ∧ wr.ownsRow w.heap.size 3 1 out (mem i m).length ((mem i m).flatMap cN) ∧ Below w.heap.size w wr) (fun _ ii _ => 12 - (intOf ii).toNat)
  case atStart => exact ⟨0, Nat.zero_le _, rfl, World.ownsRow_lit w #[] 0 (Nat.le_refl _) (by decide) rfl, (Below.refl _ _).alloc (Nat.le_refl _) _⟩
  case round =>
    obtain ⟨i, hi, rfl, hrow, hbel⟩ := hrel
    have HROW := Lib.hid hrow
    have hs := hbel.size
    have hml := mem_len i m
    clear hrow
    by_cases hlt : 2 ^ i ≤ m
    · have e1 := shr_on (by omega) hlt
      have hi12 : i < 12 := by
        rcases Nat.lt_or_ge i 12 with h | h
        · exact h
        · have : 2 ^ 12 ≤ 2 ^ i := Nat.pow_le_pow_right (by omega) h
          omega
      clear hlt
      cases hb : m.testBit i with
      | true =>
        have e3 := bit_on (by omega) (by omega) hb
        have HM := Lib.hid (mem_yes hb)
        clear hb
        go_wp2_with (at_builtin; (refine wpList_append1 cN elInt rfl _ _ rfl w.heap.size _ (mem i m) i _ 1 _ (by rfl) HROW.out (by rfl) rfl rfl rfl (cN_one _) (by omega) (by omega) hs ?_); rw [← HM.out]; intro v' w4 hrow' hb4 _ _)
        go_roundw
        case rel => exact ⟨i + 1, by omega, by go_num, hrow', hbel.trans hb4⟩
        case measure => simp [intOf]; omega
      | false =>
        have e3 := bit_off (by omega) (by omega) hb
        have HM := Lib.hid (mem_no hb)
        clear hb
        go_wp2_with fail
        go_roundw
        case rel => exact ⟨i + 1, by omega, by go_num, by rw [HM.out]; exact HROW.out, hbel⟩
        case measure => simp [intOf]; omega
    · have e1 := shr_off (i := i) (m := m) (by omega) (by omega)
      have hfin : R = mem i m := by rw [HR.out]; exact mem_stop (by omega) hi
      have HF := Lib.hid hfin
      clear hfin hlt
      go_wp2_with fail
      go_ret
      exact ⟨_, rfl, by rw [HF.out]; exact Own.of_row HROW.out rfl rfl, hbel⟩

set_option maxHeartbeats 2000000 in
theorem after_any (v : Value) (a : Au) (set x l : Nat) (w : World) (hv : AuV 0 w.heap.size w v a) (hok : auOk a = true) (hset : set < 2 ^ a.accept.length) (hx : x ≤ 2) (hl : l < 9) :
    Calls Try.prog 61 #[v, .int .i64 (set : Int), .int .i64 (x : Int), .int .i64 (l : Int)] w fun e w' => e = .returned (.int .i64 (aft a set x l : Int)) ∧ Below w.heap.size w w' := by
  have hv0 := hv
  obtain ⟨A1, c1, A2, c2, rfl, -⟩ := hv.form hok
  clear hv
  have hn12 : a.accept.length ≤ 12 := (auOk_iff.1 hok).1.2
  have hb0 : Below w.heap.size w (w.alloc (.cells #[.int .i64 a.start, .slice A1 a.accept.length c1, .slice A2 a.accept.length c2] 27)) := (Below.refl _ _).alloc (Nat.le_refl _) _
  have HV := Lib.hid hv0
  have HOK := Lib.hid hok
  have HSET := Lib.hid hset
  have h4096 := lt12 hok hset
  clear hok hv0 hset
  go_enter Try.func61, Try.ntmps61
  go_wp2_with fail
  refine (members_any set _ h4096).mono ?_
  rintro e w1 ⟨v1, rfl, ho, hb1⟩
  obtain ⟨A3, c3, rfl, hl3, hm3, hC3⟩ := ho.form cN_len
  have hml := mem_len 12 set
  have hb2 := below_trans hb0 hb1
  have HC3 := Lib.hid hC3
  have b0 := (Blk.new w _ _ w.heap.size rfl).keep hb1
  have x0 : w1.cell? ⟨w.heap.size, 0, none⟩ = some _ := b0.cell 0
  have x1 : w1.cell? ⟨w.heap.size, 1, none⟩ = some _ := b0.cell 1
  have x2 : w1.cell? ⟨w.heap.size, 2, none⟩ = some _ := b0.cell 2
  have l0 := b0.lt
  clear b0
  clear hb1 hb0 ho hC3
  go_wp2_with fail
  have hfl : ∀ i, ((mem 12 set).take i).foldl (aftS a x l) 0 < 2 ^ a.accept.length := fun i => foldl_inv (P := fun m => m < 2 ^ a.accept.length) (fun m s hm => aftS_lt HOK.out x l m s hm) _ _ (Nat.two_pow_pos _)
  have HFL := Lib.hid hfl
  clear hfl
  go_loopw [9, 18] (fun out ii wr => ∃ (i : Nat) (u : World), i ≤ (mem 12 set).length ∧ ii = .int .i64 (i : Int) ∧ out = .int .i64 (((mem 12 set).take i).foldl (aftS a x l) 0 : Nat) ∧ wr = ext w1 u) (fun _ ii _ => (mem 12 set).length - (intOf ii).toNat)
  case atStart => exact ⟨0, w1, Nat.zero_le _, rfl, rfl, ext_self _⟩
  case round =>
    obtain ⟨i, u, hi, rfl, rfl, rfl⟩ := hrel
    by_cases hlt : i < (mem 12 set).length
    · have hsi : (mem 12 set)[i]? = some (mem 12 set)[i] := List.getElem?_eq_getElem hlt
      have hsm := mem_mem.1 (List.getElem_mem hlt)
      generalize (mem 12 set)[i] = s at hsi hsm
      have hsn : s < a.accept.length := by
        rcases Nat.lt_or_ge s a.accept.length with h | h
        · exact h
        · have := Nat.testBit_lt_two_pow (Nat.lt_of_lt_of_le HSET.out (Nat.pow_le_pow_right (by omega) h))
          rw [hsm.2] at this; cases this
      obtain ⟨b3, o3, rfl, hb3, d3⟩ := HC3.out.nat hsi
      have HFT := Lib.hid (foldl_take (f := aftS a x l) hsi 0)
      have hbw := below_trans hb2 (ext_below w1 u)
      have hm0 := HFL.out i
      generalize ((mem 12 set).take i).foldl (aftS a x l) 0 = m0 at *
      clear hsi hsm
      go_wp2_with fail
      refine (closure_any _ a s x _ (HV.out.keep hbw) HOK.out hsn hx).mono ?_
      rintro e w2 ⟨rfl, hb5⟩
      obtain ⟨u2, rfl⟩ := ext_of (below_trans (ext_below w1 u) hb5)
      have hcl := cls_lt HOK.out x s hsn
      have hcl4 := lt12 HOK.out hcl
      go_wp2_with fail
      refine (members_any (cls a x s) _ hcl4).mono ?_
      rintro e w3 ⟨v4, rfl, ho4, hb6⟩
      obtain ⟨A4, c4, rfl, hl4, hm4, hC4⟩ := ho4.form cN_len
      have hml4 := mem_len 12 (cls a x s)
      have hb7 := below_trans (ext_below w1 u2) hb6
      have hb8 := below_trans hb2 hb7
      have x0 := bcell hb7 x0 l0
      have x1 := bcell hb7 x1 l0
      have x2 := bcell hb7 x2 l0
      have l0 := Nat.lt_of_lt_of_le l0 hb7.size
      have HC4 := Lib.hid hC4
      have HCL := Lib.hid hcl
      clear hb6 hb5 hbw ho4 hC4 hcl
      go_wp2_with fail
      go_loopw [9, 28] (fun out jj wr => ∃ (j : Nat) (u : World), j ≤ (mem 12 (cls a x s)).length ∧ jj = .int .i64 (j : Int) ∧ out = .int .i64 (((mem 12 (cls a x s)).take j).foldl (aft1 a l) m0 : Nat) ∧ wr = ext w3 u) (fun _ jj _ => (mem 12 (cls a x s)).length - (intOf jj).toNat)
      case atStart => exact ⟨0, w3, Nat.zero_le _, rfl, rfl, ext_self _⟩
      case round =>
        obtain ⟨j, u3, hj, rfl, rfl, rfl⟩ := hrel
        by_cases hlt2 : j < (mem 12 (cls a x s)).length
        · have hti : (mem 12 (cls a x s))[j]? = some (mem 12 (cls a x s))[j] := List.getElem?_eq_getElem hlt2
          have htm := mem_mem.1 (List.getElem_mem hlt2)
          generalize (mem 12 (cls a x s))[j] = t at hti htm
          have htn : t < a.accept.length := by
            rcases Nat.lt_or_ge t a.accept.length with h | h
            · exact h
            · have := Nat.testBit_lt_two_pow (Nat.lt_of_lt_of_le HCL.out (Nat.pow_le_pow_right (by omega) h))
              rw [htm.2] at this; cases this
          obtain ⟨b4, o4, rfl, hb4, d4⟩ := HC4.out.nat hti
          have HFT2 := Lib.hid (foldl_take (f := aft1 a l) hti m0)
          have hm1 : ((mem 12 (cls a x s)).take j).foldl (aft1 a l) m0 < 2 ^ a.accept.length := foldl_inv (P := fun m => m < 2 ^ a.accept.length) (fun m s hm => aft1_lt HOK.out l m s hm) _ _ hm0
          have hm14 := lt12 HOK.out hm1
          generalize ((mem 12 (cls a x s)).take j).foldl (aft1 a l) m0 = m1 at *
          have hbw := below_trans hb8 (ext_below w3 u3)
          have hmv := mv_lt HOK.out t l
          have HA := Lib.hid (show aft1 a l m1 t = if 0 ≤ mv a t l then ins m1 (mv a t l).toNat else m1 from rfl)
          clear hti htm hm0
          go_wp2_with fail
          refine (move_any _ a (t : Int) (l : Int) _ (HV.out.keep hbw) HOK.out (by omega)).mono ?_
          rintro e w4 ⟨rfl, hb9⟩
          obtain ⟨u4, rfl⟩ := ext_of (below_trans (ext_below w3 u3) hb9)
          rw [mvI_in hl]
          clear hb9
          by_cases h0 : 0 ≤ mv a t l
          · generalize mv a t l = z at *
            obtain ⟨z, rfl⟩ := Int.eq_ofNat_of_zero_le h0
            have e1 := shl_bit (s := z) (by omega)
            have e2 := or_ins (m := m1) (s := z) (by omega) (by omega)
            go_wp2_with fail
            go_roundw
            case rel => exact ⟨j + 1, u4, by omega, by go_num, by rw [HFT2.out, HA.out, if_pos h0]; simp, rfl⟩
            case measure => simp [intOf]; omega
          · have h0' : decide (mv a t l ≥ 0) = false := by simp; omega
            go_wp2_with fail
            go_roundw
            case rel => exact ⟨j + 1, u4, by omega, by go_num, by rw [HFT2.out, HA.out, if_neg (by omega)], rfl⟩
            case measure => simp [intOf]; omega
        · obtain rfl : j = (mem 12 (cls a x s)).length := by omega
          have HT := Lib.hid (show ((mem 12 (cls a x s)).take (mem 12 (cls a x s)).length).foldl (aft1 a l) m0 = aftS a x l m0 s by rw [List.take_length]; rfl)
          go_wp2_with fail
          go_roundw
          case rel =>
            obtain ⟨u5, hu5⟩ := ext_of (below_trans hb7 (ext_below w3 u3))
            exact ⟨i + 1, u5, by omega, by go_num, by rw [HFT.out, HT.out], hu5⟩
          case measure => simp [intOf]; omega
    · obtain rfl : i = (mem 12 set).length := by omega
      have HT := Lib.hid (show ((mem 12 set).take (mem 12 set).length).foldl (aftS a x l) 0 = aft a set x l by rw [List.take_length]; rfl)
      go_wp2_with fail
      go_ret
      exact ⟨by rw [HT.out]; rfl, below_trans hb2 (ext_below w1 u)⟩

end Go.Proofs.Ytallglnmeeahiaa

/- The reference's LoopImages: a state behind a letter. -/
namespace Go.Proofs.Ytallglnmeeahiaa
set_option linter.unusedVariables false
set_option linter.unusedSimpArgs false
open Go.ChangeShapes Go.WideShapes Go.ChangeAt Go.RowKit
attribute [local go_sem] ext_cell ext_frozen ext_lt ext_lt1 ext_lt2 ext_lt3 ltn2 ltn3 ltn13 lts1 lts2 lts3

/-- a state, or -1, behind a letter -/
def mvP (a : Au) (s : Int) (k : Nat) : Int := if s < 0 then -1 else mv a s.toNat k
set_option maxHeartbeats 1000000 in
theorem next12_any (v : Value) (a : Au) (s : Int) (l : Nat) (w : World) (hv : AuV 0 w.heap.size w v a) (hok : auOk a = true) (hs : s < (a.accept.length : Int)) (hl9 : l < 9) :
    Calls Try.prog 78 #[v, .int .i64 s, .int .i64 (l : Int)] w fun e w' => e = .returned (.int .i64 (mvP a s l)) ∧ Below w.heap.size w w' := by
  obtain ⟨A1, c1, A2, c2, rfl, hl1, hm1, hl2, hm2, hC⟩ := hv.form hok
  have hb0 : Below w.heap.size w (w.alloc (.cells #[.int .i64 a.start, .slice A1 a.accept.length c1, .slice A2 a.accept.length c2] 27)) := (Below.refl _ _).alloc (Nat.le_refl _) _
  have HOK := Lib.hid hok
  clear hok hv
  by_cases h0 : s < 0
  · have hfin : mvP a s l = -1 := by rw [mvP, if_pos h0]
    have HF := Lib.hid hfin
    clear hfin
    go_enter Try.func78, Try.ntmps78
    go_wp2_with fail
    go_ret
    exact ⟨by rw [HF.out]; rfl, hb0⟩
  · obtain ⟨s, rfl⟩ := Int.eq_ofNat_of_zero_le (show 0 ≤ s by omega)
    obtain ⟨b2, o2, b3, o3, c3, rfl, hb2, d2, hl3, hm3, hb3, hc3⟩ := hC.row s (by omega)
    have d3 := hc3 l hl9
    have hfin : mvP a (s : Int) l = mv a s l := by rw [mvP, if_neg h0]; simp
    have HF := Lib.hid hfin
    clear hc3 hC hfin
    go_enter Try.func78, Try.ntmps78
    go_wp2_with fail
    go_ret
    exact ⟨by rw [HF.out]; rfl, hb0⟩
/-- a row of l10Node: two states, whether they part, whence and by what letter -/
structure Nd where
  a : Int
  b : Int
  ap : Bool
  fr : Int
  by' : Int
def cNd (d : Nd) : List Value := [.int .i64 d.a, .int .i64 d.b, .bool d.ap, .int .i64 d.fr, .int .i64 d.by']
def alike (d x : Nd) : Bool := (d.a == x.a) && (d.b == x.b) && (d.ap == x.ap)
def hasN (l : List Nd) (x : Nd) : Bool := l.any fun d => alike d x
theorem cNd_len (d : Nd) : (cNd d).length = 5 := rfl
theorem hasN_hit {l : List Nd} {x d : Nd} {i : Nat} (h : l[i]? = some d) (hd : alike d x = true) : hasN l x = true :=
  List.any_eq_true.2 ⟨d, List.mem_of_getElem? h, hd⟩
theorem hasN_miss {l : List Nd} {x : Nd} (h : ∀ j d, j < l.length → l[j]? = some d → alike d x = false) : hasN l x = false := by
  rw [hasN, List.any_eq_false]
  intro d hd
  obtain ⟨j, hj, rfl⟩ := List.getElem_of_mem hd
  rw [h j _ hj (List.getElem?_eq_getElem hj)]
  exact Bool.false_ne_true
set_option maxHeartbeats 2000000 in
theorem has_any (v : Value) (l : List Nd) (x : Nd) (w : World) (hv : SlE w cNd 5 v l) :
    Calls Try.prog 79 #[v, .agg #[.int .i64 x.a, .int .i64 x.b, .bool x.ap, .int .i64 x.fr, .int .i64 x.by']] w fun e w' => e = .returned (.bool (hasN l x)) ∧ Below w.heap.size w w' := by
  obtain ⟨A, c, rfl, hl, hm, hC⟩ := SlE.form hv
  have HC := Lib.hid hC
  obtain ⟨R, hR⟩ : ∃ R, R = hasN l x := ⟨_, rfl⟩
  rw [← hR]
  have HR := Lib.hid hR
  obtain ⟨xa, hxa⟩ : ∃ q, q = x.a := ⟨_, rfl⟩
  obtain ⟨xb, hxb⟩ : ∃ q, q = x.b := ⟨_, rfl⟩
  obtain ⟨xp, hxp⟩ : ∃ q, q = x.ap := ⟨_, rfl⟩
  obtain ⟨xf, hxf⟩ : ∃ q, q = x.fr := ⟨_, rfl⟩
  obtain ⟨xy, hxy⟩ : ∃ q, q = x.by' := ⟨_, rfl⟩
  rw [← hxa, ← hxb, ← hxp, ← hxf, ← hxy]
  have HXX := Lib.hid (And.intro hxa (And.intro hxb hxp))
  clear hv hC hR hxa hxb hxp hxf hxy
  have hb0 : Below w.heap.size w (w.alloc (.cells #[.int .i64 xa, .int .i64 xb, .bool xp, .int .i64 xf, .int .i64 xy] 105)) := (Below.refl _ _).alloc (Nat.le_refl _) _
  go_enter Try.func79, Try.ntmps79
  go_wp2_with fail
  obtain ⟨W0, hW0⟩ : ∃ W0, W0 = w.alloc (.cells #[.int .i64 xa, .int .i64 xb, .bool xp, .int .i64 xf, .int .i64 xy] 105) := ⟨_, rfl⟩
  rw [← hW0] at hb0 ⊢
  have x0 : W0.cell? ⟨w.heap.size, 0, none⟩ = some (.int .i64 xa) := by rw [hW0]; simp
  have x1 : W0.cell? ⟨w.heap.size, 1, none⟩ = some (.int .i64 xb) := by rw [hW0]; simp
  have x2 : W0.cell? ⟨w.heap.size, 2, none⟩ = some (.bool xp) := by rw [hW0]; simp
  have l00 : w.heap.size < W0.heap.size := by rw [hW0]; simp
  clear hW0
  have hC0 := HC.out.keep hb0
  have HC0 := Lib.hid hC0
  clear hC0
  go_loopw [5] (fun ii wr => ∃ (i : Nat) (u : World), i ≤ l.length ∧ ii = .int .i64 (i : Int) ∧ (∀ j d, j < i → l[j]? = some d → alike d x = false) ∧ wr = ext W0 u) (fun ii _ => l.length - (intOf ii).toNat)
  case atStart => exact ⟨0, W0, Nat.zero_le _, rfl, (fun j d hj => by omega), ext_self _⟩
  case round =>
    obtain ⟨i, u, hi, rfl, hno, rfl⟩ := hrel
    have HNO := Lib.hid hno
    clear hno
    have hbE := below_trans hb0 (ext_below W0 u)
    by_cases hlt : i < l.length
    · obtain ⟨d, hd⟩ : ∃ d, l[i]? = some d := ⟨_, List.getElem?_eq_getElem hlt⟩
      obtain ⟨b, o, rfl, hb, hc⟩ := HC0.out.at_ i d hd
      have d0 := hc 0 _ rfl
      have d1 := hc 1 _ rfl
      have d2 := hc 2 _ rfl
      obtain ⟨da, hda⟩ : ∃ q, q = d.a := ⟨_, rfl⟩
      obtain ⟨db, hdb⟩ : ∃ q, q = d.b := ⟨_, rfl⟩
      obtain ⟨dp, hdp⟩ : ∃ q, q = d.ap := ⟨_, rfl⟩
      rw [← hda] at d0
      rw [← hdb] at d1
      rw [← hdp] at d2
      rw [Nat.add_zero] at d0
      have HAL := Lib.hid (show alike d x = ((da == xa) && (db == xb) && (dp == xp)) by rw [alike, hda, hdb, hdp, HXX.out.1, HXX.out.2.1, HXX.out.2.2])
      have HD := Lib.hid hd
      have hii : (i : Int) < (l.length : Int) := by omega
      clear hc hd hda hdb hdp
      cases k1 : (da == xa) with
      | false =>
        have hmiss : ∀ j d, j < i + 1 → l[j]? = some d → alike d x = false := fun j d' hj hd' => by
          rcases Nat.lt_or_ge j i with h | h
          · exact HNO.out j d' h hd'
          · obtain rfl : j = i := (by omega)
            rw [HD.out] at hd'
            injection hd' with hd'
            rw [← hd', HAL.out, k1]
            simp
        have HM := Lib.hid hmiss
        clear hmiss
        go_wp2_with fail
        refine wp_region_ext_lit (by kernel_rfl) (by kernel_rfl) ?_
        repeat (go_big_quiet_step (fail))
        refine wpQuiet_nil ?_
        intro _ hw'
        obtain ⟨u3, hw''⟩ := hw'
        subst hw''
        obtain ⟨u4, hu4⟩ := ext_of (below_trans (ext_below W0 u) (ext_below (ext W0 u) u3))
        rw [hu4]
        go_wp2_with fail
        go_roundw
        case rel => exact ⟨i + 1, u4, by omega, by go_num, HM.out, rfl⟩
        case measure => simp [intOf]; omega
      | true =>
        cases k2 : (db == xb) with
        | false =>
          have hmiss : ∀ j d, j < i + 1 → l[j]? = some d → alike d x = false := fun j d' hj hd' => by
            rcases Nat.lt_or_ge j i with h | h
            · exact HNO.out j d' h hd'
            · obtain rfl : j = i := (by omega)
              rw [HD.out] at hd'
              injection hd' with hd'
              rw [← hd', HAL.out, k1, k2]
              simp
          have HM := Lib.hid hmiss
          clear hmiss
          go_wp2_with fail
          refine wp_region_ext_lit (by kernel_rfl) (by kernel_rfl) ?_
          repeat (go_big_quiet_step (fail))
          refine wpQuiet_nil ?_
          intro _ hw'
          obtain ⟨u3, hw''⟩ := hw'
          subst hw''
          obtain ⟨u4, hu4⟩ := ext_of (below_trans (ext_below W0 u) (ext_below (ext W0 u) u3))
          rw [hu4]
          go_wp2_with fail
          go_roundw
          case rel => exact ⟨i + 1, u4, by omega, by go_num, HM.out, rfl⟩
          case measure => simp [intOf]; omega
        | true =>
          cases k3 : (dp == xp) with
          | false =>
            have hmiss : ∀ j d, j < i + 1 → l[j]? = some d → alike d x = false := fun j d' hj hd' => by
              rcases Nat.lt_or_ge j i with h | h
              · exact HNO.out j d' h hd'
              · obtain rfl : j = i := (by omega)
                rw [HD.out] at hd'
                injection hd' with hd'
                rw [← hd', HAL.out, k1, k2, k3]
                simp
            have HM := Lib.hid hmiss
            clear hmiss
            go_wp2_with fail
            refine wp_region_ext_lit (by kernel_rfl) (by kernel_rfl) ?_
            repeat (go_big_quiet_step (fail))
            refine wpQuiet_nil ?_
            intro _ hw'
            obtain ⟨u3, hw''⟩ := hw'
            subst hw''
            obtain ⟨u4, hu4⟩ := ext_of (below_trans (ext_below W0 u) (ext_below (ext W0 u) u3))
            rw [hu4]
            go_wp2_with fail
            go_roundw
            case rel => exact ⟨i + 1, u4, by omega, by go_num, HM.out, rfl⟩
            case measure => simp [intOf]; omega
          | true =>
            have hfin : R = true := by rw [HR.out]; exact hasN_hit HD.out (by rw [HAL.out, k1, k2, k3]; rfl)
            subst hfin
            clear HR
            go_wp2_with fail
            refine wp_region_ext_lit (by kernel_rfl) (by kernel_rfl) ?_
            repeat (go_big_quiet_step (fail))
            refine wpQuiet_nil ?_
            intro _ hw'
            obtain ⟨u3, hw''⟩ := hw'
            subst hw''
            go_wp2_with fail
            go_ret
            exact ⟨rfl, below_trans hbE (ext_below _ _)⟩
    · obtain rfl : i = l.length := by omega
      have hfin : R = false := by
        rw [HR.out]
        exact hasN_miss HNO.out
      subst hfin
      clear HR
      go_wp2_with fail
      go_ret
      exact ⟨rfl, hbE⟩
end Go.Proofs.Ytallglnmeeahiaa

/- The program's together: two automata behind a letter. -/
namespace Go.Proofs.Ytallglnmeeahiaa
set_option linter.unusedVariables false
set_option linter.unusedSimpArgs false
open Go.ChangeShapes Go.WideShapes Go.ChangeAt Go.RowKit
attribute [local go_sem] ext_cell ext_frozen ext_lt ext_lt1 ext_lt2 ext_lt3 ltn2 ltn3 ltn13 lts1 lts2 lts3

theorem mvI_mvP {a : Au} {s : Int} {l : Nat} (hl : l < 9) : mvI a s l = mvP a s l := by
  unfold mvP
  by_cases h : s < 0
  · rw [if_pos h, mvI, if_neg (by omega)]
  · obtain ⟨n, rfl⟩ := Int.eq_ofNat_of_zero_le (show 0 ≤ s by omega)
    rw [if_neg h, mvI_in hl]; simp
theorem together_any (v1 v2 s1 v3 v4 s2 : Value) (w : World) :
    Calls Try.prog 72 #[.agg #[s1, v1, v2], .agg #[s2, v3, v4]] w fun e w' => e = .returned (.func (Fn.func 98) #[] #[.pointer (some ⟨w.heap.size, 0, none⟩), .pointer (some ⟨w.heap.size + 1, 0, none⟩)]) ∧
      w' = (w.alloc (.cells #[s1, v1, v2] 27)).alloc (.cells #[s2, v3, v4] 27) := by
  go_enter Try.func72, Try.ntmps72
  go_wp2_with fail
  go_ret
  exact ⟨rfl, rfl⟩
set_option maxHeartbeats 1000000 in
theorem together1_any (b0 b1 : Nat) (A1 A2 : Option Addr) (c1 c2 : Nat) (a : Au) (x y : Int) (l : Nat) (w : World) (hok : auOk a = true)
    (hv : AuV 0 w.heap.size w (.agg #[.int .i64 a.start, .slice A1 a.accept.length c1, .slice A2 a.accept.length c2]) a)
    (h0 : b0 < w.heap.size) (h1 : b1 < w.heap.size)
    (x0 : w.cell? ⟨b0, 0, none⟩ = some (.int .i64 a.start)) (x1 : w.cell? ⟨b0, 1, none⟩ = some (.slice A1 a.accept.length c1)) (x2 : w.cell? ⟨b0, 2, none⟩ = some (.slice A2 a.accept.length c2))
    (y0 : w.cell? ⟨b1, 0, none⟩ = some (.int .i64 a.start)) (y1 : w.cell? ⟨b1, 1, none⟩ = some (.slice A1 a.accept.length c1)) (y2 : w.cell? ⟨b1, 2, none⟩ = some (.slice A2 a.accept.length c2))
    (hx : x < (a.accept.length : Int)) (hy : y < (a.accept.length : Int)) (hl : l < 9) :
    Calls Try.prog 98 #[.agg #[.int .i64 x, .int .i64 y], .int .i64 (l : Int), .pointer (some ⟨b0, 0, none⟩), .pointer (some ⟨b1, 0, none⟩)] w fun e w' => e = .returned (.agg #[.int .i64 (mvP a x l), .int .i64 (mvP a y l)]) ∧ Below w.heap.size w w' := by
  have HV := Lib.hid hv
  have HOK := Lib.hid hok
  have HX := Lib.hid hx
  have HY := Lib.hid hy
  rw [← mvI_mvP hl, ← mvI_mvP hl]
  have hb1 : b0 < w.heap.size + 1 := by omega
  have hb2 : b0 < w.heap.size + 1 + 1 := by omega
  have hb3 : b1 < w.heap.size + 1 := by omega
  have hb4 : b1 < w.heap.size + 1 + 1 := by omega
  clear hv hok
  go_enter Try.func98, Try.ntmps98
  go_wp2_with fail
  refine wp_region_ext_tail 11 (by kernel_rfl) (by kernel_rfl) ?_
  simp only [List.take_succ_cons, List.take_zero]
  repeat (go_big_quiet_step ((go_at_call 91; exact Calls.ext_of (move_any _ a _ _ _ (HV.out.keep (by repeat (first | exact Below.refl _ _ | assumption | refine Below.alloc ?_ (by simp <;> omega) _ | refine Below.drew ?_ | refine below_ext ?_ (by simp <;> omega) _ | exact ext_below _ _))) HOK.out (by assumption)))))
  refine wpQuiet_nil ?_
  intro _ hw'
  obtain ⟨u2, hw''⟩ := hw'
  subst hw''
  simp only [List.drop_succ_cons, List.drop_zero]
  go_wp2_with fail
  refine bodyPost_ret (v := .agg #[.int .i64 (mvI a x l), .int .i64 (mvI a y l)]) (by simp [results, Try.results98, go_sem]) rfl ⟨rfl, ?_⟩
  repeat (first | exact Below.refl _ _ | refine Below.setCell ?_ (by simp <;> omega) _ | refine Below.alloc ?_ (by simp <;> omega) _ | refine below_ext ?_ (by simp <;> omega) _)
end Go.Proofs.Ytallglnmeeahiaa

/- A map whose elements are booleans: the look-up, at the operation. -/
namespace Go.Proofs.Ytallglnmeeahiaa
set_option linter.unusedVariables false
set_option linter.unusedSimpArgs false
open Go.ChangeShapes Go.WideShapes Go.ChangeAt Go.RowKit Go.Maps

theorem boolElem_inv {H : Type} {P : Program} {e : TypeId} (he : P.underlying e = some .bool) {v : Value} {z : DataW H × List MemPlace} (h : plainElem P e v = some z) : ∃ x, v = .bool x ∧ z = (.lit (.bool x), []) := by
  unfold plainElem at h
  rw [he] at h
  cases v <;> simp at h
  exact ⟨_, rfl, h.symm⟩

theorem lookup_bool {H : Type} {P : Program} (w : World) {ops : Array Oper} {rest : List Oper} {o : Oper} {a : Act} {Q : Exit → Act → World → Prop}
    (hg : o.guard = none) (m x : Operand) (t : TypeId) (hop : o.op = Op.lookup t m x false)
    (k e : TypeId) (K : Keyed P k) (ht : P.underlying t = some (.map k e)) (he : P.underlying e = some .bool) (hz : (zeroValue e).run P w = .ok (.bool false) w) (b n : Nat) (D : DataW H)
    (hm : a.eval m = .map (some b)) (hown : w.ownsMap P k (plainElem P e) b n D) (key : Value) (kl : Lit) (hx : a.eval x = key) (hkey : keyOf P k key = some kl)
    (hK : ∀ c : Bool, D.atKey kl (.lit (.bool false)) = .lit (.bool c) → wpList P ops Q rest (a.put o.dst (.bool c)) w) :
    wpList P ops Q (o :: rest) a w := by
  refine wpList_plain hg fun K' hK' => ?_
  obtain ⟨v, ps, hrun, hv⟩ := hown.lookup K ht hz (plainElem_bool he false) hkey
  obtain ⟨c, rfl, hc⟩ := boolElem_inv he hv
  unfold Oper.wp
  simp [execOp, hop, hm, hx, hrun, Result.andThen]
  exact hK' _ _ (hK c (congrArg Prod.fst hc))

/-- the same, as the run alone (a guarded look-up's walk rewrites with it) -/
theorem run_lookup_bool {H : Type} {P : Program} {w : World} {t k e : TypeId} (K : Keyed P k) (ht : P.underlying t = some (.map k e)) (he : P.underlying e = some .bool) (hz : (zeroValue e).run P w = .ok (.bool false) w) {b n : Nat} {D : DataW H}
    (hown : w.ownsMap P k (plainElem P e) b n D) {key : Value} {kl : Lit} (hkey : keyOf P k key = some kl) {c : Bool} (hc : D.atKey kl (.lit (.bool false)) = .lit (.bool c)) :
    (Instr.lookup t (.map (some b)) key false).run P w = .ok (.bool c) w := by
  obtain ⟨v, ps, hrun, hv⟩ := hown.lookup K ht hz (plainElem_bool he false) hkey
  obtain ⟨c', rfl, hc'⟩ := boolElem_inv he hv
  have h1 := (congrArg Prod.fst hc').symm.trans hc
  injection h1 with h1
  injection h1 with h1
  rw [← h1]
  exact hrun

end Go.Proofs.Ytallglnmeeahiaa

/- Keys of a map over pairs of states: two integers. -/
namespace Go.Proofs.Ytallglnmeeahiaa
set_option linter.unusedVariables false
set_option linter.unusedSimpArgs false
open Go.ChangeShapes Go.WideShapes Go.ChangeAt Go.RowKit Go.Maps

theorem key2s {P : Program} {k : TypeId} {f0 f1 : Field} (hu : P.underlying k = some (.struct #[f0, f1])) (h1 : P.keyType k = true) (hc : P.cellsOf k = 2) (h0 : P.underlying f0.type = some (.int .i64)) (h0' : P.underlying f1.type = some (.int .i64))
    (c0 : P.cellsOf f0.type = 1) (c1 : P.cellsOf f1.type = 1) (o0 : f0.offset = 0) (o1 : f1.offset = 1) (n0 : (f0.name != "_") = true) (n1 : (f1.name != "_") = true) {n : Nat} (hn : P.types.size = n + 1)
    (x s : Int) (hx : (Lit.int .i64 x).wf = true) (hs : (Lit.int .i64 s).wf = true) : keyOf P k (.agg #[.int .i64 x, .int .i64 s]) = some (.string (keyBytes [.int .i64 x, .int .i64 s])) := by
  have h4 : (Value.agg #[.int .i64 x, .int .i64 s]).formed P k = true := by simp [Value.formed, hu, hc]
  simp only [bne_iff_ne, ne_eq] at n0 n1
  simp [keyOf, hu, h1, h4, hn, Program.keyLits, hc, h0, h0', c0, c1, o0, o1, n0, n1, hx, hs, Value.cells]
theorem laidOutS : laidOutB Try.prog = true := by kernel_rfl
theorem wideStates : (match Try.prog.underlying 101 with | some (.array _ _) | some (.struct _) => true | _ => false) = true := by rw [Try.underlying101]
theorem rowStates : decide (101 < Try.prog.types.size) = true := by kernel_rfl
theorem typeStates : Try.prog.keyTypeAt 5 101 = true := by kernel_rfl
set_option maxRecDepth 100000 in
theorem keyedStates : Keyed Try.prog 101 := Keyed.of_law (deep_law_laid laidOutS (m := 5) (by decide) (of_decide_eq_true rowStates) typeStates wideStates)
theorem sizeStates : ∃ n, Try.prog.types.size = n + 1 := ⟨Try.prog.types.size - 1, by have h : 0 < Try.prog.types.size := of_decide_eq_true (by kernel_rfl); omega⟩
def stKey (x s : Int) : Lit := .string (keyBytes [.int .i64 x, .int .i64 s])
theorem keyTStates : Try.prog.keyType 101 = true := by kernel_rfl
theorem cellsStates : Try.prog.cellsOf 101 = 2 := by kernel_rfl
theorem cellsIntS : Try.prog.cellsOf 3 = 1 := by kernel_rfl
theorem keyStates (x s : Int) (hx : (Lit.int .i64 x).wf = true) (hs : (Lit.int .i64 s).wf = true) : keyOf Try.prog 101 (.agg #[.int .i64 x, .int .i64 s]) = some (stKey x s) := by
  obtain ⟨n, hn⟩ := sizeStates
  exact key2s Try.underlying101 keyTStates cellsStates Try.underlying3 Try.underlying3 cellsIntS cellsIntS rfl rfl (by decide) (by decide) hn x s hx hs
theorem stKey_inj {x s x' s' : Int} (hx : (Lit.int .i64 x).wf = true) (hs : (Lit.int .i64 s).wf = true) (hx' : (Lit.int .i64 x').wf = true) (hs' : (Lit.int .i64 s').wf = true) (h : stKey x s = stKey x' s') : x = x' ∧ s = s' := by
  have h1 := keyStates x s hx hs
  have h2 := keyStates x' s' hx' hs'
  rw [← h] at h2
  have h3 := keyedStates.inj h1 h2
  injection h3 with h3
  simpa using h3
end Go.Proofs.Ytallglnmeeahiaa

/- The set of pairs met, as the program's map[states]bool keeps it. -/
namespace Go.Proofs.Ytallglnmeeahiaa
set_option linter.unusedVariables false
set_option linter.unusedSimpArgs false
open Go.ChangeShapes Go.WideShapes Go.ChangeAt Go.RowKit Go.Maps
/-- the datum holds true at exactly the pairs of r -/
def SeenD {H : Type} (D : DataW H) (r : List (Int × Int)) : Prop :=
  IsMap D ∧ ∀ x s : Int, (Lit.int .i64 x).wf = true → (Lit.int .i64 s).wf = true → D.atKey (stKey x s) (.lit (.bool false)) = .lit (.bool (decide ((x, s) ∈ r)))
theorem SeenD.empty {H : Type} : SeenD (.map [] : DataW H) [] := ⟨isMap_empty, fun x s _ _ => by simp [DataW.atKey]⟩
theorem SeenD.put {H : Type} {D : DataW H} {r : List (Int × Int)} (h : SeenD D r) {y t : Int} (hy : (Lit.int .i64 y).wf = true) (ht : (Lit.int .i64 t).wf = true) : SeenD (D.put (stKey y t) (.lit (.bool true))) (r ++ [(y, t)]) := by
  refine ⟨h.1.put _ _, fun x s hx hs => ?_⟩
  by_cases he : x = y ∧ s = t
  · obtain ⟨rfl, rfl⟩ := he
    rw [atKey_put_same h.1 (show WideAt.IsKeyLit (stKey x s) from trivial)]
    simp
  · rw [atKey_put_other (fun e => he (stKey_inj hx hs hy ht e)), h.2 x s hx hs]
    congr 2
    rw [decide_eq_decide, List.mem_append, List.mem_singleton, Prod.mk.injEq]
    exact ⟨.inl, fun h => h.resolve_right he⟩
theorem wf_i64 {x : Int} (h1 : -9223372036854775808 ≤ x) (h2 : x ≤ 9223372036854775807) : (Lit.int .i64 x).wf = true := by
  have e1 : IntKind.i64.min = -9223372036854775808 := by decide
  have e2 : IntKind.i64.max = 9223372036854775807 := by decide
  simp [Lit.wf, IntKind.wrap] <;> omega
end Go.Proofs.Ytallglnmeeahiaa

/-
  DERIVED: THE SHELF's CONTRACTS AT THIS DUMP, IN PLAIN WORDS (tools/lay-plain.mjs out of 'TryShelf.lean', which tools/lay-shelf.mjs wrote): THE SAME DECLARATIONS UNDER THE SAME NAMES: 'import', 'namespace', 'open', 'def', 'theorem' AND NOTHING ELSE: no command of the shelf's: FOR A HAND-IN. Each laying: the table of numbers ('.._ren') and one theorem, a field a fact of the dump's own or the kernel's comparison; each contract: ONE APPLICATION.
-/
namespace Go.Proofs
open Go.Shelf
def Try.lays128_ren : Go.Shelf.Ren := ⟨fun | 128 => 123 | n => n, fun | 51 => 151 | 3 => 3 | 4 => 4 | 46 => 123 | 5 => 5 | 9 => 9 | n => n, fun | n => n⟩
theorem Try.lays128 : Go.Proofs.Lays.n128 Try.prog Try.lays128_ren := {
  mixed := by kernel_rfl
  f128 := Try.func123.trans (congrArg some (by kernel_rfl))
  t3 := Try.underlying3
  a3 := Try.isAgg3
  z3 := Try.sizeOf3
  v3 := Try.zeroValue3
  t4 := Try.underlying4
  a4 := Try.isAgg4
  z4 := Try.sizeOf4
  v4 := Try.zeroValue4
  t5 := Try.underlying5
  a5 := Try.isAgg5
  z5 := Try.sizeOf5
  v5 := Try.zeroValue5
  t9 := Try.underlying9
  a9 := Try.isAgg9
  z9 := Try.sizeOf9
  v9 := Try.zeroValue9
  t46 := Try.underlying123
  a46 := Try.isAgg123
  z46 := Try.sizeOf123
  v46 := Try.zeroValue123
  t51 := Try.underlying151
  a51 := Try.isAgg151
  z51 := Try.sizeOf151
  v51 := Try.zeroValue151 }
/-- bits.Len32: "Len32 returns the minimum number of bits required to represent x; the result is 0 for x == 0.": IT RETURNS 'Lib.bitLen x'; the world is as it was. ('h0', 'h1': x is a uint32.) (LAID: no walk: one application.) -/
theorem Try.bits_Len32 (x : Int) (w : World) (h0 : 0 ≤ x) (h1 : x ≤ 4294967295) :
    Calls Try.prog 123 #[.int .u32 x] w fun e w' => e = .returned (.int .i64 (Lib.bitLen x.toNat)) ∧ w' = w := Any.bits_Len32 Try.lays128 x w h0 h1
def Try.lays125_ren : Go.Shelf.Ren := ⟨fun | 125 => 100 | 128 => 123 | 129 => 124 | n => n, fun | 46 => 123 | 3 => 3 | 51 => 151 | 53 => 153 | 4 => 4 | 5 => 5 | 9 => 9 | n => n, fun | n => n⟩
theorem Try.lays125 : Go.Proofs.Lays.n125 Try.prog Try.lays125_ren := {
  mixed := by kernel_rfl
  f125 := Try.func100.trans (congrArg some (by kernel_rfl))
  f128 := Try.func123.trans (congrArg some (by kernel_rfl))
  f129 := Try.func124.trans (congrArg some (by kernel_rfl))
  t3 := Try.underlying3
  a3 := Try.isAgg3
  z3 := Try.sizeOf3
  v3 := Try.zeroValue3
  t4 := Try.underlying4
  a4 := Try.isAgg4
  z4 := Try.sizeOf4
  v4 := Try.zeroValue4
  t5 := Try.underlying5
  a5 := Try.isAgg5
  z5 := Try.sizeOf5
  v5 := Try.zeroValue5
  t9 := Try.underlying9
  a9 := Try.isAgg9
  z9 := Try.sizeOf9
  v9 := Try.zeroValue9
  t46 := Try.underlying123
  a46 := Try.isAgg123
  z46 := Try.sizeOf123
  v46 := Try.zeroValue123
  t51 := Try.underlying151
  a51 := Try.isAgg151
  z51 := Try.sizeOf151
  v51 := Try.zeroValue151
  t53 := Try.underlying153
  a53 := Try.isAgg153
  z53 := Try.sizeOf153
  v53 := Try.zeroValue153 }
/-- bits.Len: "Len returns the minimum number of bits required to represent x; the result is 0 for x == 0.": IT RETURNS 'Lib.bitLen x'; the world is as it was. (A uint has 64 bits in the model.) ITS CALLEE bits.Len64 IS MET BY ITS OWN CONTRACT OFF THE SHELF (lay that first). (LAID: no walk: one application.) -/
theorem Try.bits_Len (x : Int) (w : World) (h0 : 0 ≤ x) (h1 : x ≤ 18446744073709551615) :
    Calls Try.prog 100 #[.int .u64 x] w fun e w' => e = .returned (.int .i64 (Lib.bitLen x.toNat)) ∧ w' = w := Any.bits_Len Try.lays125 x w h0 h1
def Try.lays215_ren : Go.Shelf.Ren := ⟨fun | 215 => 139 | n => n, fun | 3 => 3 | 4 => 4 | n => n, fun | n => n⟩
theorem Try.lays215 : Go.Proofs.Lays.n215 Try.prog Try.lays215_ren := {
  mixed := by kernel_rfl
  f215 := Try.func139.trans (congrArg some (by kernel_rfl))
  t3 := Try.underlying3
  a3 := Try.isAgg3
  z3 := Try.sizeOf3
  v3 := Try.zeroValue3
  t4 := Try.underlying4
  a4 := Try.isAgg4
  z4 := Try.sizeOf4
  v4 := Try.zeroValue4 }
open Go.RowKit in
/-- cmp.isNaN at int: 'x != x': false. (LAID: no walk: one application.) -/
theorem Try.cmp_isNaN_int (x : Int) (w : World) :
    Calls Try.prog 139 #[.int .i64 x] w fun e w' => e = .returned (.bool false) ∧ w' = w := Any.cmp_isNaN_int Try.lays215 x w
def Try.lays129_ren : Go.Shelf.Ren := ⟨fun | 129 => 124 | n => n, fun | 53 => 153 | 3 => 3 | 4 => 4 | 46 => 123 | 5 => 5 | 9 => 9 | n => n, fun | n => n⟩
theorem Try.lays129 : Go.Proofs.Lays.n129 Try.prog Try.lays129_ren := {
  mixed := by kernel_rfl
  f129 := Try.func124.trans (congrArg some (by kernel_rfl))
  t3 := Try.underlying3
  a3 := Try.isAgg3
  z3 := Try.sizeOf3
  v3 := Try.zeroValue3
  t4 := Try.underlying4
  a4 := Try.isAgg4
  z4 := Try.sizeOf4
  v4 := Try.zeroValue4
  t5 := Try.underlying5
  a5 := Try.isAgg5
  z5 := Try.sizeOf5
  v5 := Try.zeroValue5
  t9 := Try.underlying9
  a9 := Try.isAgg9
  z9 := Try.sizeOf9
  v9 := Try.zeroValue9
  t46 := Try.underlying123
  a46 := Try.isAgg123
  z46 := Try.sizeOf123
  v46 := Try.zeroValue123
  t53 := Try.underlying153
  a53 := Try.isAgg153
  z53 := Try.sizeOf153
  v53 := Try.zeroValue153 }
/-- bits.Len64: "Len64 returns the minimum number of bits required to represent x; the result is 0 for x == 0.": IT RETURNS 'Lib.bitLen x'; the world is as it was. ('h0', 'h1': x is a uint64.) (LAID: no walk: one application.) -/
theorem Try.bits_Len64 (x : Int) (w : World) (h0 : 0 ≤ x) (h1 : x ≤ 18446744073709551615) :
    Calls Try.prog 124 #[.int .u64 x] w fun e w' => e = .returned (.int .i64 (Lib.bitLen x.toNat)) ∧ w' = w := Any.bits_Len64 Try.lays129 x w h0 h1
def Try.lays189_ren : Go.Shelf.Ren := ⟨fun | 189 => 74 | 125 => 100 | 257 => 99 | 128 => 123 | 129 => 124 | 294 => 114 | 295 => 115 | 296 => 116 | 297 => 117 | 298 => 118 | 299 => 119 | 216 => 120 | 300 => 121 | 301 => 122 | 328 => 134 | 329 => 135 | 330 => 136 | 331 => 137 | 332 => 138 | 215 => 139 | 343 => 150 | n => n, fun | 28 => 30 | 3 => 3 | 46 => 123 | 0 => 0 | 51 => 151 | 53 => 153 | 4 => 4 | 183 => 143 | 182 => 142 | 131 => 148 | 5 => 5 | 9 => 9 | 218 => 169 | 222 => 173 | 228 => 184 | 229 => 185 | n => n, fun | n => n⟩
theorem Try.lays189 : Go.Proofs.Lays.n189 Try.prog Try.lays189_ren := {
  mixed := by kernel_rfl
  f125 := Try.func100.trans (congrArg some (by kernel_rfl))
  f128 := Try.func123.trans (congrArg some (by kernel_rfl))
  f129 := Try.func124.trans (congrArg some (by kernel_rfl))
  f189 := Try.func74.trans (congrArg some (by kernel_rfl))
  f215 := Try.func139.trans (congrArg some (by kernel_rfl))
  f216 := Try.func120.trans (congrArg some (by kernel_rfl))
  f257 := Try.func99.trans (congrArg some (by kernel_rfl))
  f294 := Try.func114.trans (congrArg some (by kernel_rfl))
  f295 := Try.func115.trans (congrArg some (by kernel_rfl))
  f296 := Try.func116.trans (congrArg some (by kernel_rfl))
  f297 := Try.func117.trans (congrArg some (by kernel_rfl))
  f298 := Try.func118.trans (congrArg some (by kernel_rfl))
  f299 := Try.func119.trans (congrArg some (by kernel_rfl))
  f300 := Try.func121.trans (congrArg some (by kernel_rfl))
  f301 := Try.func122.trans (congrArg some (by kernel_rfl))
  f328 := Try.func134.trans (congrArg some (by kernel_rfl))
  f329 := Try.func135.trans (congrArg some (by kernel_rfl))
  f330 := Try.func136.trans (congrArg some (by kernel_rfl))
  f331 := Try.func137.trans (congrArg some (by kernel_rfl))
  f332 := Try.func138.trans (congrArg some (by kernel_rfl))
  f343 := Try.func150.trans (congrArg some (by kernel_rfl))
  t0 := Try.underlying0
  a0 := Try.isAgg0
  z0 := Try.sizeOf0
  v0 := Try.zeroValue0
  t3 := Try.underlying3
  a3 := Try.isAgg3
  z3 := Try.sizeOf3
  v3 := Try.zeroValue3
  t4 := Try.underlying4
  a4 := Try.isAgg4
  z4 := Try.sizeOf4
  v4 := Try.zeroValue4
  t5 := Try.underlying5
  a5 := Try.isAgg5
  z5 := Try.sizeOf5
  v5 := Try.zeroValue5
  t9 := Try.underlying9
  a9 := Try.isAgg9
  z9 := Try.sizeOf9
  v9 := Try.zeroValue9
  t28 := Try.underlying30
  a28 := Try.isAgg30
  z28 := Try.sizeOf30
  v28 := Try.zeroValue30
  t46 := Try.underlying123
  a46 := Try.isAgg123
  z46 := Try.sizeOf123
  v46 := Try.zeroValue123
  t51 := Try.underlying151
  a51 := Try.isAgg151
  z51 := Try.sizeOf151
  v51 := Try.zeroValue151
  t53 := Try.underlying153
  a53 := Try.isAgg153
  z53 := Try.sizeOf153
  v53 := Try.zeroValue153
  t131 := Try.underlying148
  a131 := Try.isAgg148
  z131 := Try.sizeOf148
  v131 := Try.zeroValue148
  t182 := Try.underlying142
  a182 := Try.isAgg142
  z182 := Try.sizeOf142
  v182 := Try.zeroValue142
  t183 := Try.underlying143
  a183 := Try.isAgg143
  z183 := Try.sizeOf143
  v183 := Try.zeroValue143
  t218 := Try.underlying169
  a218 := Try.isAgg169
  z218 := Try.sizeOf169
  v218 := Try.zeroValue169
  t222 := Try.underlying173
  a222 := Try.isAgg173
  z222 := Try.sizeOf173
  v222 := Try.zeroValue173
  t228 := Try.underlying184
  a228 := Try.isAgg184
  z228 := Try.sizeOf184
  v228 := Try.zeroValue184
  t229 := Try.underlying185
  a229 := Try.isAgg185
  z229 := Try.sizeOf185
  v229 := Try.zeroValue185 }
open Go.Sort Go.RowKit in
theorem Try.slices_Sort_int (blk off cap : Nat) (zs : List Int) (w : World) (hH : Holds (Value.int .i64) w blk off zs.toArray) (hblk : blk < w.heap.size) (hsz : zs.length < 4611686018427387904) :
    Calls Try.prog 74 #[.slice (some ⟨blk, off, none⟩) zs.length cap] w fun e w' =>
      e = .returned (.tuple #[]) ∧ ∃ n os, w' = grow (putRow (Value.int .i64) (Sort.ahead w n) blk off (zs.mergeSort fun x y => decide (x ≤ y)).toArray) os := Any.slices_Sort_int Try.lays189 blk off cap zs w hH hblk hsz
def Try.lays264_ren : Go.Shelf.Ren := ⟨fun | 264 => 133 | n => n, fun | 53 => 153 | 46 => 123 | n => n, fun | n => n⟩
theorem Try.lays264 : Go.Proofs.Lays.n264 Try.prog Try.lays264_ren := {
  mixed := by kernel_rfl
  f264 := Try.func133.trans (congrArg some (by kernel_rfl))
  t46 := Try.underlying123
  a46 := Try.isAgg123
  z46 := Try.sizeOf123
  v46 := Try.zeroValue123
  t53 := Try.underlying153
  a53 := Try.isAgg153
  z53 := Try.sizeOf153
  v53 := Try.zeroValue153 }
open Go.RowKit Go.Lib in
theorem Try.bits_Mul64 (x y : Nat) (hx : x < 18446744073709551616) (hy : y < 18446744073709551616) (w : World) :
    Calls Try.prog 133 #[.int .u64 x, .int .u64 y] w fun e w' => e = .returned (.tuple #[.int .u64 ((x * y / 18446744073709551616 : Nat) : Int), .int .u64 ((x * y % 18446744073709551616 : Nat) : Int)]) ∧ w' = w := Any.bits_Mul64 Try.lays264 x y hx hy w
def Try.lays212_ren : Go.Shelf.Ren := ⟨fun | 212 => 113 | 263 => 132 | 264 => 133 | n => n, fun | 46 => 123 | 51 => 151 | 146 => 165 | 53 => 153 | 148 => 167 | n => n, fun | n => n⟩
theorem Try.lays212 : Go.Proofs.Lays.n212 Try.prog Try.lays212_ren := {
  mixed := by kernel_rfl
  f212 := Try.func113.trans (congrArg some (by kernel_rfl))
  f263 := Try.func132.trans (congrArg some (by kernel_rfl))
  f264 := Try.func133.trans (congrArg some (by kernel_rfl))
  t46 := Try.underlying123
  a46 := Try.isAgg123
  z46 := Try.sizeOf123
  v46 := Try.zeroValue123
  t51 := Try.underlying151
  a51 := Try.isAgg151
  z51 := Try.sizeOf151
  v51 := Try.zeroValue151
  t53 := Try.underlying153
  a53 := Try.isAgg153
  z53 := Try.sizeOf153
  v53 := Try.zeroValue153
  t146 := Try.underlying165
  a146 := Try.isAgg165
  z146 := Try.sizeOf165
  v146 := Try.zeroValue165
  t148 := Try.underlying167
  a148 := Try.isAgg167
  z148 := Try.sizeOf167
  v148 := Try.zeroValue167 }
open Go.RowKit Go.Lib in
/-- math/bits.Mul: "Mul returns the full-width product of x and y": on a machine of 64 bits: Mul64's. (LAID: no walk: one application.) -/
theorem Try.bits_Mul (x y : Nat) (hx : x < 18446744073709551616) (hy : y < 18446744073709551616) (w : World) :
    Calls Try.prog 113 #[.int .u64 x, .int .u64 y] w fun e w' => e = .returned (.tuple #[.int .u64 ((x * y / 18446744073709551616 : Nat) : Int), .int .u64 ((x * y % 18446744073709551616 : Nat) : Int)]) ∧ w' = w := Any.bits_Mul Try.lays212 x y hx hy w
def Try.lays108_ren : Go.Shelf.Ren := ⟨fun | 108 => 50 | n => n, fun | 28 => 30 | 3 => 3 | 0 => 0 | 4 => 4 | n => n, fun | n => n⟩
theorem Try.lays108 : Go.Proofs.Lays.n108 Try.prog Try.lays108_ren := {
  mixed := by kernel_rfl
  f108 := Try.func50.trans (congrArg some (by kernel_rfl))
  t0 := Try.underlying0
  a0 := Try.isAgg0
  z0 := Try.sizeOf0
  v0 := Try.zeroValue0
  t3 := Try.underlying3
  a3 := Try.isAgg3
  z3 := Try.sizeOf3
  v3 := Try.zeroValue3
  t4 := Try.underlying4
  a4 := Try.isAgg4
  z4 := Try.sizeOf4
  v4 := Try.zeroValue4
  t28 := Try.underlying30
  a28 := Try.isAgg30
  z28 := Try.sizeOf30
  v28 := Try.zeroValue30 }
open Go.Lib in
/-- slices.Index at []int: "Index returns the index of the first occurrence of v in s, or -1 if not present.": IT RETURNS 'Lib.idxOf (the elements) v'; the world is as it was. 'zs': what the cells behind the slice's address hold (its spare capacity too, if you have it); 'zs.take n': its elements. (LAID: no walk: one application.) -/
theorem Try.slices_Index_int (b off n c : Nat) (zs : List Int) (x : Int) (w : World) (hz : n ≤ zs.length) (hbig : n ≤ 9223372036854775807) (hc : ∀ j, j < zs.length → w.cell? ⟨b, off + j, none⟩ = some (.int .i64 (zs.getD j 0))) :
    Calls Try.prog 50 #[.slice (some ⟨b, off, none⟩) n c, .int .i64 x] w fun e w' => e = .returned (.int .i64 (Lib.idxOf (zs.take n) x)) ∧ w' = w := Any.slices_Index_int Try.lays108 b off n c zs x w hz hbig hc
open Go.Lib in
/-- The same at a slice of length 0, a nil one too: no cell is known, none is asked for. (LAID: no walk: one application.) -/
theorem Try.slices_Index_int_empty (a : Option Addr) (c : Nat) (x : Int) (w : World) :
    Calls Try.prog 50 #[.slice a 0 c, .int .i64 x] w fun e w' => e = .returned (.int .i64 (Lib.idxOf [] x)) ∧ w' = w := Any.slices_Index_int_empty Try.lays108 a c x w
def Try.laysNm220_ren : Go.Shelf.Ren := ⟨fun | 20 => 75 | n => n, fun | 22 => 30 | 3 => 3 | 4 => 4 | 0 => 0 | n => n, fun | n => n⟩
theorem Try.laysNm220 : Go.Proofs.Lays2.n20 Try.prog Try.laysNm220_ren := {
  mixed := by kernel_rfl
  f20 := Try.func75.trans (congrArg some (by kernel_rfl))
  t0 := Try.underlying0
  a0 := Try.isAgg0
  z0 := Try.sizeOf0
  v0 := Try.zeroValue0
  t3 := Try.underlying3
  a3 := Try.isAgg3
  z3 := Try.sizeOf3
  v3 := Try.zeroValue3
  t4 := Try.underlying4
  a4 := Try.isAgg4
  z4 := Try.sizeOf4
  v4 := Try.zeroValue4
  t22 := Try.underlying30
  a22 := Try.isAgg30
  z22 := Try.sizeOf30
  v22 := Try.zeroValue30
  i3 := by kernel_rfl }
open Go.RowKit Go.Lib Go.Sort in
/-- slices.Compact at []int, over an array: the library's two loops are walked. (LAID: no walk: one application.) -/
theorem Try.slices_Compact_int_arr (blk off cap : Nat) (d : Array Int) (w : World) (hH : Holds encI w blk off d) (hsz : d.size ≤ 9223372036854775807) (hcap : d.size ≤ cap) :
    Calls Try.prog 75 #[.slice (some ⟨blk, off, none⟩) d.size cap] w fun e w' => e = .returned (.slice (some ⟨blk, off, none⟩) (compactUpTo d d.size).length cap) ∧ ∃ q, w' = putRow encI (Sort.ahead w q) blk off (compactUpTo d d.size ++ List.replicate (d.size - (compactUpTo d d.size).length) 0).toArray := Any.slices_Compact_int_arr Try.laysNm220 blk off cap d w hH hsz hcap
open Go.RowKit Go.Lib Go.Sort in
/-- slices.Compact at []int: "Compact replaces consecutive runs of equal elements with a single copy. This is like the uniq command found on Unix. Compact modifies the contents of the slice s and returns the modified slice, which may have a smaller length. Compact zeroes the elements between the new length and the original length. The result preserves the nilness of s.": IT RETURNS THE SLICE CUT TO 'Lib.compact zs'; ITS CELLS HOLD 'Lib.compact zs', THEN ZERO VALUES up to the old length; all else is as it was, but for the count of draws. IN THE WORDS OF slices.Sort's CONTRACT ('Holds', 'putRow'): so the everyday 'slices.Sort(xs); xs = slices.Compact(xs)' goes from the one contract to the other. It asks 'zs.length ≤ cap' (every slice's: the reslicing 's[:k]' looks at it). Length 0, nil: '.._empty'. (LAID: no walk: one application.) -/
theorem Try.slices_Compact_int (blk off cap : Nat) (zs : List Int) (w : World) (hH : Holds (Value.int .i64) w blk off zs.toArray) (hsz : zs.length ≤ 9223372036854775807) (hcap : zs.length ≤ cap) :
    Calls Try.prog 75 #[.slice (some ⟨blk, off, none⟩) zs.length cap] w fun e w' => e = .returned (.slice (some ⟨blk, off, none⟩) (Lib.compact zs).length cap) ∧ ∃ q, w' = putRow (Value.int .i64) (Sort.ahead w q) blk off (Lib.compact zs ++ List.replicate (zs.length - (Lib.compact zs).length) 0).toArray := Any.slices_Compact_int Try.laysNm220 blk off cap zs w hH hsz hcap
open Go.RowKit Go.Lib Go.Sort in
/-- The same at a slice of length 0, a nil one too: it comes back as it is. (LAID: no walk: one application.) -/
theorem Try.slices_Compact_int_empty (a : Option Addr) (cap : Nat) (w : World) :
    Calls Try.prog 75 #[.slice a 0 cap] w fun e w' => e = .returned (.slice a 0 cap) ∧ w' = w := Any.slices_Compact_int_empty Try.laysNm220 a cap w
def Try.laysNm237_ren : Go.Shelf.Ren := ⟨fun | 37 => 139 | n => n, fun | 3 => 3 | 4 => 4 | n => n, fun | n => n⟩
theorem Try.laysNm237 : Go.Proofs.Lays2.n37 Try.prog Try.laysNm237_ren := {
  mixed := by kernel_rfl
  f37 := Try.func139.trans (congrArg some (by kernel_rfl))
  t3 := Try.underlying3
  a3 := Try.isAgg3
  z3 := Try.sizeOf3
  v3 := Try.zeroValue3
  t4 := Try.underlying4
  a4 := Try.isAgg4
  z4 := Try.sizeOf4
  v4 := Try.zeroValue4 }
open Go.RowKit Go.Lib in
/-- cmp.isNaN[int]: 'x != x': false. (LAID: no walk: one application.) -/
theorem Try.cmp_isNaN_int2 (x : Int) (w : World) :
    Calls Try.prog 139 #[.int .i64 x] w fun e w' => e = .returned (.bool false) ∧ w' = w := Any.cmp_isNaN_int2 Try.laysNm237 x w
def Try.laysNm231_ren : Go.Shelf.Ren := ⟨fun | 31 => 120 | 37 => 139 | n => n, fun | 3 => 3 | 4 => 4 | n => n, fun | n => n⟩
theorem Try.laysNm231 : Go.Proofs.Lays2.n31 Try.prog Try.laysNm231_ren := {
  mixed := by kernel_rfl
  f31 := Try.func120.trans (congrArg some (by kernel_rfl))
  f37 := Try.func139.trans (congrArg some (by kernel_rfl))
  t3 := Try.underlying3
  a3 := Try.isAgg3
  z3 := Try.sizeOf3
  v3 := Try.zeroValue3
  t4 := Try.underlying4
  a4 := Try.isAgg4
  z4 := Try.sizeOf4
  v4 := Try.zeroValue4 }
open Go.RowKit Go.Lib in
/-- cmp.Less[int]: "Less reports whether x is less than y.": 'x < y'; the world is as it was. (LAID: no walk: one application.) -/
theorem Try.cmp_Less_int2 (x y : Int) (w : World) :
    Calls Try.prog 120 #[.int .i64 x, .int .i64 y] w fun e w' => e = .returned (.bool (decide (x < y))) ∧ w' = w := Any.cmp_Less_int2 Try.laysNm231 x y w
open Go.RowKit Go.Lib Go.Sort in
/-- slices.Compact at []int, of an argument: the slice cut to 'Lib.compact (elements)'; the n cells hold that, then zeros. (LAID: no walk: one application.) -/
theorem Try.slices_Compact_int_cells (b off n c : Nat) (zs : List Int) (w : World) (hz : n ≤ zs.length) (hbig : n ≤ 9223372036854775807) (hcap : n ≤ c) (hc : ∀ j, j < zs.length → w.cell? ⟨b, off + j, none⟩ = some (.int .i64 (zs.getD j 0))) (hf : ∀ j, j < n → w.frozen? ⟨b, off + j, none⟩ = false) :
    Calls Try.prog 75 #[.slice (some ⟨b, off, none⟩) n c] w fun e w' => e = .returned (.slice (some ⟨b, off, none⟩) (Lib.compact (zs.take n)).length c) ∧ ∃ q, w' = (w.drewN q).setCells b off ((Lib.compact (zs.take n) ++ List.replicate (n - (Lib.compact (zs.take n)).length) 0).map (Value.int .i64)) := Any.slices_Compact_int_cells Try.laysNm220 b off n c zs w hz hbig hcap hc hf
open Go.RowKit Go.Sort in
/-- .. and plain. (LAID: no walk: one application.) -/
theorem Try.slices_Sort_int_none (p : Option Addr) (cap : Nat) (w : World) :
    Calls Try.prog 74 #[.slice p 0 cap] w fun e w' => e = .returned (.tuple #[]) ∧ w' = w := Any.slices_Sort_int_none Try.lays189 p cap w
end Go.Proofs

/- A row of one's own, cut short: what 's[:m]' leaves is a row of one's own. -/
namespace Go.Proofs.Ytallglnmeeahiaa
set_option linter.unusedVariables false
set_option linter.unusedSimpArgs false
open Go.ChangeShapes Go.WideShapes Go.ChangeAt Go.RowKit

theorem ownsRow_take {W : World} {base k n m g cap : Nat} {e : TypeId} {cs : List Value} (h : W.ownsRow base e k (.slice (some ⟨g, 0, none⟩) n cap) n cs) (hm : m ≤ n) : W.ownsRow base e k (.slice (some ⟨g, 0, none⟩) m cap) m (cs.take (m * k)) := by
  obtain ⟨hl, hs⟩ := h
  have hmk : m * k ≤ n * k := Nat.mul_le_mul_right k hm
  refine ⟨by rw [List.length_take, hl]; omega, ?_⟩
  rcases hs with ⟨h1, _⟩ | ⟨g', cap', cur, hv, hg, hh, hnc, hcm, hsz, htk⟩
  · cases h1
  · simp only [Value.slice.injEq, Option.some.injEq, Addr.mk.injEq, and_true, true_and] at hv
    obtain ⟨rfl, rfl⟩ := hv
    refine .inr ⟨g, cap, cur, rfl, hg, hh, by omega, hcm, hsz, ?_⟩
    rw [← htk, List.take_take]
    congr 1
    omega
end Go.Proofs.Ytallglnmeeahiaa

/- The program's copyInts and ascending: a copy of numbers; the same in ascending order, each once. -/
namespace Go.Proofs.Ytallglnmeeahiaa
set_option linter.unusedVariables false
set_option linter.unusedSimpArgs false
open Go.ChangeShapes Go.WideShapes Go.ChangeAt Go.RowKit Go.Sort
attribute [local go_sem] ext_cell ext_frozen ext_lt ext_lt1 ext_lt2 ext_lt3 ltn2 ltn3 ltn13 lts1 lts2 lts3

theorem flatI_map (xs : List Int) : xs.flatMap cI = xs.map (Value.int .i64) := by
  induction xs with
  | nil => rfl
  | cons x xs ih => rw [List.flatMap_cons, List.map_cons, ih]; rfl
theorem only_ahead (lo hi : Nat) (w : World) (n : Nat) : Only lo hi w (Sort.ahead w n) := ⟨rfl, rfl, rfl, Nat.le_refl _, fun _ _ _ => rfl⟩
theorem only_grow (lo hi : Nat) (w : World) (os : Array Obj) : Only lo hi w (grow w os) := ⟨rfl, rfl, rfl, by simp [grow], fun n hn _ => by simp [grow, Array.getElem?_append, hn]⟩
theorem only_put {α : Type} [Inhabited α] (enc : α → Value) (w : World) (g off : Nat) (d : Array α) : Only g (g + 1) w (putRow enc w g off d) :=
  ⟨rfl, rfl, rfl, by simp [putRow, mapBlock], fun n hn ho => by simp only [putRow, mapBlock, Array.getElem?_modify]; rw [if_neg (by omega)]⟩
theorem row_put {w : World} {base g n cap : Nat} {e : TypeId} {cs : List Value} (h : w.ownsRow base e 1 (.slice (some ⟨g, 0, none⟩) n cap) n cs) {ds : List Int} (hd : ds.length = n) :
    (putRow (Value.int .i64) w g 0 ds.toArray).ownsRow base e 1 (.slice (some ⟨g, 0, none⟩) n cap) n (ds.flatMap cI) := by
  obtain ⟨hl, hs⟩ := h
  rw [flatI_map]
  refine ⟨by simp [hd], ?_⟩
  rcases hs with ⟨h1, _⟩ | ⟨g', cap', cur, hv, hg, hh, hnc, hcm, hsz, htk⟩
  · cases h1
  · simp only [Value.slice.injEq, Option.some.injEq, Addr.mk.injEq, and_true, true_and] at hv
    obtain ⟨rfl, rfl⟩ := hv
    refine .inr ⟨g, cap, putCells (Value.int .i64) 0 ds.toArray cur, rfl, hg, ?_, hnc, hcm, by simp [putCells, hsz], ?_⟩
    · simp [putRow, mapBlock, Array.getElem?_modify, hh, onCells]
    · apply List.ext_getElem?
      intro k
      rw [List.getElem?_take]
      by_cases hk : k < n * 1
      · rw [if_pos hk]
        have hk1 : k < n := by omega
        have hkc : k < cur.size := by omega
        have hkd : k < ds.length := by omega
        simp [putCells, hkc, hkd, getElem!_pos]
      · rw [if_neg hk, List.getElem?_eq_none (by simp; omega)]
theorem holds_own {w : World} {base g n cap : Nat} {e : TypeId} {zs : List Int} (h : w.ownsRow base e 1 (.slice (some ⟨g, 0, none⟩) n cap) n (zs.flatMap cI)) (hz : zs.length = n) : Holds (Value.int .i64) w g 0 zs.toArray := by
  intro j hj
  have hj' : j < zs.length := by simpa using hj
  refine ⟨?_, by rw [Nat.zero_add]; exact World.ownsRow.frozenAt h j⟩
  rw [Nat.zero_add, World.ownsRow.cellAt h j (by omega), flatI_map, List.getElem?_map, List.getElem?_eq_getElem hj', get_bang hj']
  rfl

set_option maxHeartbeats 1000000 in
theorem copyInts_any (v : Value) (xs : List Int) (w : World) (hv : SlE w cI 1 v xs) (hn : xs.length ≤ 1000000) :
    Calls Try.prog 73 #[v] w fun e w' => ∃ v', e = .returned v' ∧ Own w.heap.size w'.heap.size w' 3 cI 1 v' xs ∧ Below w.heap.size w w' := by
  have hv0 := hv
  obtain ⟨A, c, rfl, hl, hm, -⟩ := SlE.form hv
  have hba : Below w.heap.size w (w.alloc (.cells #[] 3)) := (Below.refl _ _).alloc (Nat.le_refl _) _
  have hv1 := SlE.keep hv0 hba
  have hrow := World.ownsRow_lit (base := w.heap.size) (e := 3) (size := 1) w #[] 0 (Nat.le_refl _) (by decide) rfl
  have HV := Lib.hid hv1
  have HR := Lib.hid hrow
  clear hv hv0 hv1 hrow
  go_enter Try.func73, Try.ntmps73
  go_wp2_with (at_builtin; (refine wpList_appendL cI elInt cI_len cI_one rfl _ _ rfl w.heap.size _ [] xs (by rfl) HR.out 0 _ _ (by rfl) HV.out (by simp; omega) (by omega) (by simp) ?_); intro v' w4 hrow' hgr4 hat4)
  have hown := Own.of_row (xs := xs) hrow' rfl rfl
  have hgr := hgr4
  have hbel := (hba.trans (own_below HR.out (by simp) hgr4))
  obtain ⟨A2, n2, c2, rfl⟩ := hown.shape
  have HO := Lib.hid hown
  clear hown hgr hgr4 hrow' hat4
  go_wp2_with fail
  go_ret
  exact ⟨_, rfl, HO.out, hbel⟩

set_option maxHeartbeats 2000000 in
theorem ascending_any (v : Value) (xs : List Int) (w : World) (hv : SlE w cI 1 v xs) (hn : xs.length ≤ 1000000) :
    Calls Try.prog 41 #[v] w fun e w' => ∃ v', e = .returned v' ∧ Own w.heap.size w'.heap.size w' 3 cI 1 v' (ascL xs) ∧ Below w.heap.size w w' := by
  have hc := copyInts_any v xs w hv hn
  have HC := Lib.hid hc
  clear hc hv
  obtain ⟨R, hR⟩ : ∃ R, R = ascL xs := ⟨_, rfl⟩
  rw [← hR]
  have HR := Lib.hid hR
  clear hR
  go_enter Try.func41, Try.ntmps41
  go_wp2_with fail
  refine HC.out.mono ?_
  rintro e w1 ⟨v1, rfl, ho1, hb1⟩
  cases xs with
  | nil =>
    have hr0 : R = [] := by rw [HR.out]; simp [ascL, Lib.compact, Lib.compactUpTo]
    subst hr0
    obtain ⟨A1, c1, rfl, -, -, -⟩ := ho1.form cI_len
    have HO := Lib.hid ho1
    clear ho1
    simp only [List.length_nil] at HO ⊢
    go_wp2_with fail
    refine (Try.slices_Sort_int_none A1 c1 _).mono ?_
    rintro e w2 ⟨rfl, rfl⟩
    go_wp2_with fail
    refine (Try.slices_Compact_int_empty A1 c1 _).mono ?_
    rintro e w3 ⟨rfl, rfl⟩
    go_wp2_with fail
    go_ret
    exact ⟨_, rfl, HO.out, hb1⟩
  | cons x xs =>
    obtain ⟨zs, hzs⟩ : ∃ zs, zs = x :: xs := ⟨_, rfl⟩
    have hz0 : zs.length ≠ 0 := by rw [hzs]; simp
    rw [← hzs] at HR ho1 hn
    clear hzs HC
    have hr1 := ho1.1
    obtain ⟨g, c, rfl, hg, hgw, hcl, hcm⟩ := own_some hr1 hz0
    have hms : (zs.mergeSort fun x y => decide (x ≤ y)).length = zs.length := List.length_mergeSort _
    obtain ⟨ys, hys⟩ : ∃ ys, ys = zs.mergeSort fun x y => decide (x ≤ y) := ⟨_, rfl⟩
    rw [← hys] at hms
    have hsort := Try.slices_Sort_int g 0 c zs w1 (holds_own hr1 rfl) hgw (by omega)
    rw [← hys] at hsort
    have HS := Lib.hid hsort
    have HR1 := Lib.hid hr1
    have HRY := Lib.hid (show R = Lib.compact ys by rw [HR.out, ascL, hys])
    clear hsort hr1 hys ho1 HR
    go_wp2_with fail
    refine HS.out.mono ?_
    rintro e w2 ⟨rfl, n, os, rfl⟩
    have hon := ((only_ahead g (g + 1) w1 n).trans (only_put (Value.int .i64) _ g 0 ys.toArray)).trans (only_grow g (g + 1) _ os)
    have hr2 : (grow (putRow (Value.int .i64) (Sort.ahead w1 n) g 0 ys.toArray) os).ownsRow w.heap.size 3 1 (.slice (some ⟨g, 0, none⟩) zs.length c) zs.length (ys.flatMap cI) := by
      have h := row_put (w := Sort.ahead w1 n) (ds := ys) (cs := zs.flatMap cI) (by exact HR1.out) hms
      exact ownsRow_block h fun b hb => by
        have hlt := (h.lt b hb).2
        exact (only_grow 0 0 (putRow (Value.int .i64) (Sort.ahead w1 n) g 0 ys.toArray) os).block b hlt (.inr (Nat.zero_le _))
    have HON := Lib.hid hon
    have HR2 := Lib.hid hr2
    generalize grow (putRow (Value.int .i64) (Sort.ahead w1 n) g 0 ys.toArray) os = w2 at *
    clear hon hr2 HS HR1
    have hcomp := Try.slices_Compact_int g 0 c ys w2 (holds_own HR2.out hms) (by omega) (by omega)
    rw [hms] at hcomp
    have HCO := Lib.hid hcomp
    clear hcomp
    go_wp2_with fail
    refine HCO.out.mono ?_
    rintro e w3 ⟨rfl, q, rfl⟩
    have hcl2 := Lib.compact_length_le ys
    have hr3 : (putRow (Value.int .i64) (Sort.ahead w2 q) g 0 (Lib.compact ys ++ List.replicate (zs.length - (Lib.compact ys).length) 0).toArray).ownsRow w.heap.size 3 1 (.slice (some ⟨g, 0, none⟩) zs.length c) zs.length ((Lib.compact ys ++ List.replicate (zs.length - (Lib.compact ys).length) 0).flatMap cI) :=
      row_put (w := Sort.ahead w2 q) (cs := ys.flatMap cI) (by exact HR2.out) (by rw [List.length_append, List.length_replicate]; omega)
    have hr4 := ownsRow_take hr3 (show (Lib.compact ys).length ≤ zs.length by omega)
    have htk : ((Lib.compact ys ++ List.replicate (zs.length - (Lib.compact ys).length) 0).flatMap cI).take ((Lib.compact ys).length * 1) = (Lib.compact ys).flatMap cI := by
      rw [List.flatMap_append, List.take_left' (by rw [flatI_map]; simp)]
    rw [htk, ← HRY.out] at hr4
    have hon := HON.out.trans ((only_ahead g (g + 1) w2 q).trans (only_put (Value.int .i64) _ g 0 (Lib.compact ys ++ List.replicate (zs.length - (Lib.compact ys).length) 0).toArray))
    have hown := Own.of_row (xs := R) hr4 rfl rfl
    have HO := Lib.hid hown
    have hfin : Below w.heap.size w _ := hb1.trans (hon.below hg hb1.size)
    clear hr3 hr4 htk hon hown
    rw [← HRY.out] at *
    go_wp2_with fail
    go_ret
    exact ⟨_, rfl, HO.out, hfin⟩
end Go.Proofs.Ytallglnmeeahiaa

/- A slice of the call's own that may begin inside its block (a queue: cut at the front, appended to at the back). -/
namespace Go.Proofs.Ytallglnmeeahiaa
set_option linter.unusedVariables false
set_option linter.unusedSimpArgs false
open Go.ChangeShapes Go.WideShapes Go.ChangeAt Go.RowKit

def QRow (w : World) (lo : Nat) (e : TypeId) (k : Nat) (v : Value) (n : Nat) (xs : List Value) : Prop :=
  xs.length = n * k ∧
  ((v = .slice none 0 0 ∧ n = 0) ∨
   ∃ g o cap cur, v = .slice (some ⟨g, o, none⟩) n cap ∧ lo ≤ g ∧ w.heap[g]? = some (.cells cur e (0, 0)) ∧ n ≤ cap ∧ cap ≤ maxLen ∧ o + cap * k ≤ cur.size ∧ (cur.toList.drop o).take (n * k) = xs)

section
variable {w w' : World} {lo k n : Nat} {e : TypeId} {v : Value} {xs : List Value}
theorem QRow.of_own (h : w.ownsRow lo e k v n xs) : QRow w lo e k v n xs := by
  obtain ⟨hl, hs⟩ := h
  refine ⟨hl, ?_⟩
  rcases hs with hs | ⟨g, cap, cur, hv, hg, hh, hnc, hm, hsz, htk⟩
  · exact .inl hs
  · exact .inr ⟨g, 0, cap, cur, hv, hg, hh, hnc, hm, by omega, by simpa using htk⟩
theorem QRow.lt (h : QRow w lo e k v n xs) : ∀ g, v.ownBlock = some g → lo ≤ g ∧ g < w.heap.size := by
  intro g hg
  rcases h.2 with ⟨rfl, _⟩ | ⟨g', o, cap, cur, rfl, hl, hh, _⟩
  · cases hg
  · have : g' = g := by simpa [Value.ownBlock] using hg
    subst this
    refine ⟨hl, ?_⟩
    rcases Nat.lt_or_ge g' w.heap.size with hlt | hge
    · exact hlt
    · rw [Array.getElem?_eq_none hge] at hh; cases hh
theorem QRow.shape (h : QRow w lo e k v n xs) : ∃ A c, v = .slice A n c ∧ n ≤ c ∧ c ≤ maxLen := by
  rcases h.2 with ⟨rfl, rfl⟩ | ⟨g, o, cap, cur, rfl, _, _, h1, h2, _⟩
  · exact ⟨_, _, rfl, Nat.le_refl _, by unfold maxLen; omega⟩
  · exact ⟨_, _, rfl, h1, h2⟩
theorem QRow.block (h : QRow w lo e k v n xs) (hb : ∀ g, v.ownBlock = some g → w'.heap[g]? = w.heap[g]?) : QRow w' lo e k v n xs := by
  obtain ⟨hl, hs⟩ := h
  refine ⟨hl, ?_⟩
  rcases hs with hs | ⟨g, o, cap, cur, rfl, hg, hh, r⟩
  · exact .inl hs
  · exact .inr ⟨g, o, cap, cur, rfl, hg, (hb g rfl).trans hh, r⟩
theorem QRow.below (h : QRow w lo e k v n xs) {B : Nat} (hb : Below B w w') (hB : w.heap.size ≤ B) : QRow w' lo e k v n xs :=
  h.block fun g hg => hb.block g (by have := (h.lt g hg).2; omega)
theorem QRow.only (h : QRow w lo e k v n xs) {l r : Nat} (hb : Only l r w w') (ho : ∀ g, v.ownBlock = some g → g < l ∨ r ≤ g) : QRow w' lo e k v n xs :=
  h.block fun g hg => hb.block g (h.lt g hg).2 (ho g hg)
theorem QRow.alloc (h : QRow w lo e k v n xs) (o : Obj) : QRow (w.alloc o) lo e k v n xs :=
  h.block fun g hg => Below.heap_alloc w o g (h.lt g hg).2
theorem QRow.cell (h : QRow w lo e k v n xs) (hn : 0 < n) : ∃ g o c, v = .slice (some ⟨g, o, none⟩) n c ∧ lo ≤ g ∧ g < w.heap.size ∧ ∀ j u, xs[j]? = some u → w.cell? ⟨g, o + j, none⟩ = some u := by
  have hlt := h.lt
  obtain ⟨hl, hs⟩ := h
  rcases hs with ⟨_, h0⟩ | ⟨g, o, cap, cur, rfl, hg, hh, hnc, hm, hsz, htk⟩
  · omega
  · refine ⟨g, o, cap, rfl, hg, (hlt g rfl).2, fun j u hu => ?_⟩
    rw [cell_of_row w g (o + j) cur e (0, 0) hh]
    have hj : j < n * k := by rw [← hl]; exact (List.getElem?_eq_some_iff.1 hu).1
    rw [← htk, List.getElem?_take, if_pos hj, List.getElem?_drop] at hu
    simpa using hu
/-- v[1:] -/
theorem QRow.tail (h : QRow w lo e k v (n + 1) xs) {A : Option Addr} {c : Nat} (hv : v = .slice A (n + 1) c) : QRow w lo e k (.slice (if c = 1 then A else A.map (·.add k)) n (c - 1)) n (xs.drop k) := by
  obtain ⟨hl, hs⟩ := h
  refine ⟨by rw [List.length_drop, hl, Nat.succ_mul]; omega, ?_⟩
  rcases hs with ⟨_, h0⟩ | ⟨g, o, cap, cur, rfl, hg, hh, hnc, hm, hsz, htk⟩
  · omega
  · injection hv with h1 _ h3
    subst h1 h3
    by_cases hc : cap = 1
    · rw [if_pos hc]
      have hn0 : n = 0 := by omega
      subst hn0
      refine .inr ⟨g, o, _, cur, rfl, hg, hh, by omega, by omega, by subst hc; simp only [Nat.sub_self, Nat.zero_mul]; omega, ?_⟩
      have : xs.drop k = [] := by rw [List.drop_eq_nil_iff, hl]; omega
      rw [this]; simp
    · rw [if_neg hc]
      refine .inr ⟨g, o + k, cap - 1, cur, ?_, hg, hh, by omega, by omega, ?_, ?_⟩
      · simp only [Option.map_some, Addr.add]
        split
        · rename_i h0; subst h0; rfl
        · rfl
      · have : cap = (cap - 1) + 1 := by omega
        rw [this, Nat.succ_mul] at hsz
        omega
      · rw [← htk, List.drop_take, List.drop_drop, Nat.succ_mul]
        congr 1
        omega
end

section
variable {P : Program} (w : World)
theorem run_append_roomQ (t ty e : TypeId) (i : TypeInfo) (ht : P.underlying t = some (.slice e)) (hi : P.info? e = some i)
    (g o sLen sCap : Nat) (cur : Array Value) (hg : w.heap[g]? = some (.cells cur e (0, 0)))
    (a : Addr) (m c : Nat) (news : List Value) (hl : news.length = m * i.size) (hnews : ∀ j u, news[j]? = some u → w.cell? (a.add j) = some u) (h1 : ∀ u ∈ news, u.oneCell' = true)
    (hroom : sLen + m ≤ sCap) (hfit : o + sLen * i.size + news.length ≤ cur.size) :
    (Builtin.append_ #[t, t] ty #[.slice (some ⟨g, o, none⟩) sLen sCap, .slice (some a) m c]).run P w =
      .ok (.slice (some ⟨g, o, none⟩) (sLen + m) sCap) (w.setRow g (cur.toList.take (o + sLen * i.size) ++ news ++ cur.toList.drop (o + sLen * i.size + news.length)).toArray) := by
  have hf := run_firstCells_some (P := P) w i.size m a m c news hl hnews
  have hst := run_storeCells_at P g (o + sLen * i.size) e news 0 cur w hg (by simpa using hfit) h1
  simp only [Nat.add_zero] at hst
  have hadd : (⟨g, o, none⟩ : Addr).add (sLen * i.size) = ⟨g, o + sLen * i.size, none⟩ := by
    unfold Addr.add
    split
    · rename_i h0; rw [h0]; rfl
    · rfl
  simp [Builtin.append_, run_underlying ht, sizeOf, typeInfo, hi, Builtin.lenOf, hroom, hf, hadd, hst]

theorem run_appendQ (base : Nat) (t ty e : TypeId) (i : TypeInfo) (z : Value) (size bytes : Nat) (ht : P.underlying t = some (.slice e)) (hi : P.info? e = some i) (hz : i.zero = some z)
    (hsize : i.size = size) (hby : i.bytes = bytes) (hzs : z.cells.size = size) (hsz : 0 < size)
    (v : Value) (n : Nat) (xs : List Value) (hown : QRow w base e size v n xs)
    (a : Addr) (m c : Nat) (news : List Value) (hm0 : 0 < m) (hl : news.length = m * size) (hnews : ∀ j u, news[j]? = some u → w.cell? (a.add j) = some u) (h1 : ∀ u ∈ news, u.oneCell' = true)
    (h63 : n + m ≤ maxLen) (hbytes : (n + m) * bytes ≤ 140737488355328) (hbase : base ≤ w.heap.size) :
    ∃ v' w', (Builtin.append_ #[t, t] ty #[v, .slice (some a) m c]).run P w = .ok v' w' ∧ QRow w' base e size v' (n + m) (xs ++ news) ∧ w.grownBy w' v.ownBlock ∧ (v'.ownBlock = v.ownBlock ∨ v'.ownBlock = some w.heap.size) := by
  rcases hown.2 with ⟨rfl, rfl⟩ | ⟨g, o, cap, cur, rfl, hbg, hg, hnc, hcm, hcs, htake⟩
  · have hx : xs = [] := List.eq_nil_of_length_eq_zero (by simpa using hown.1)
    subst hx
    obtain ⟨v', w', hr, h2, h3, _, h5⟩ := run_append_own_at (P := P) w base t ty e i z size bytes ht hi hz hsize hby hzs hsz (.slice none 0 0) 0 [] (World.ownsRow_nil w base e size) a m c news hl hnews h1 h63 hbytes hbase
    exact ⟨v', w', hr, QRow.of_own h2, h3, h5⟩
  · subst hsize hby
    have hsmall : n + m ≤ 9223372036854775807 := by simp only [maxLen] at h63; omega
    have hlen : (xs ++ news).length = (n + m) * i.size := by rw [List.length_append, hown.1, hl, Nat.add_mul]
    by_cases hroom : n + m ≤ cap
    · have hfit : o + n * i.size + news.length ≤ cur.size := by
        rw [hl, Nat.add_assoc, ← Nat.add_mul]
        have := Nat.mul_le_mul_right i.size hroom
        omega
      have hr := run_append_roomQ (P := P) w t ty e i ht hi g o n cap cur hg a m c news hl hnews h1 hroom hfit
      refine ⟨_, _, hr, ⟨hlen, .inr ⟨g, o, cap, _, rfl, hbg, setRow_heap w g cur _ e _ hg, hroom, hcm, ?_, ?_⟩⟩, ⟨rfl, rfl, rfl, by simp, fun k _ hk => setRow_other w g k _ (fun e => hk (by simp [Value.ownBlock, e]))⟩, .inl rfl⟩
      · simp only [List.size_toArray, List.length_append, List.length_take, List.length_drop, Array.length_toList]
        omega
      · have h2 : (cur.toList.take (o + n * i.size)).drop o = xs := by rw [List.drop_take, Nat.add_sub_cancel_left]; exact htake
        have hle : o ≤ (cur.toList.take (o + n * i.size)).length := by rw [List.length_take, Array.length_toList]; omega
        rw [List.append_assoc, List.drop_append_of_le_length hle, h2, ← List.append_assoc, ← hlen]
        exact List.take_left
    · have holds : ∀ j u, xs[j]? = some u → w.cell? ((⟨g, o, none⟩ : Addr).add j) = some u := by
        intro j u hu
        have hj : j < n * i.size := by rw [← hown.1]; exact (List.getElem?_eq_some_iff.1 hu).1
        have hadd : (⟨g, o, none⟩ : Addr).add j = ⟨g, o + j, none⟩ := by
          unfold Addr.add
          split
          · rename_i h0; subst h0; rfl
          · rfl
        rw [hadd, cell_of_row w g (o + j) cur e (0, 0) hg]
        rw [← htake, List.getElem?_take, if_pos hj, List.getElem?_drop] at hu
        simpa using hu
      have hr := run_append_grow (P := P) w t ty e i z ht hi hz ⟨g, o, none⟩ n cap xs hown.1 holds a m c news hl hnews (by omega) (by omega) (growslice_fits (by omega) hbytes)
      have hge := grownCap_ge w (n + m) cap e
      have hcm2 : grownCap w (n + m) cap e ≤ maxLen := grownCap_le_maxLen w (n + m) cap e h63
      refine ⟨_, _, hr, ⟨hlen, .inr ⟨w.heap.size, 0, _, _, rfl, hbase, heap_alloc_new w.drew _, hge, hcm2, ?_, ?_⟩⟩, ⟨rfl, rfl, rfl, by simp, fun k hk _ => Below.heap_alloc w.drew _ k hk⟩, .inr rfl⟩
      · simp only [Array.size_append, List.size_toArray, size_zeroCells, hzs, hown.1, hl, ← Nat.add_mul, Nat.zero_add]
        apply Nat.le_of_eq
        congr 1
        omega
      · rw [List.drop_zero, Array.toList_append, Array.toList_append, ← hlen]
        exact List.take_left

/-- append(q, x): the one element was laid in a block of its own first -/
theorem wpList_appendQ1 {w : World} {α : Type} (E : α → List Value) {ops : Array Oper} {rest : List Oper} {o : Oper} {a : Act} {Q : Exit → Act → World → Prop} {t e : TypeId} {z : Value} {k bytes : Nat} (el : ElemOk P t e z k bytes)
    (hgd : o.guard = none) (s y : Operand) (ho : o.op = .call { callee := .builtin .append, args := #[s, y], argTypes := #[t, t] })
    (base : Nat) (v : Value) (xs : List α) (x : α) (cs : Array Value) (c H : Nat) (hs : a.eval s = v) (hown : QRow w base e k v xs.length (xs.flatMap E)) (hy : a.eval y = .slice (some ⟨H, 0, none⟩) 1 c) (hH : H = w.heap.size)
    (hcs : cs = (E x).toArray) (hE : (E x).length = k) (h1 : ∀ u ∈ E x, u.oneCell' = true) (hbytes : (xs.length + 1) * bytes ≤ 140737488355328) (hb0 : 0 < bytes) (hbase : base ≤ w.heap.size)
    (h : ∀ v' w', QRow w' base e k v' (xs ++ [x]).length ((xs ++ [x]).flatMap E) → Below base w w' → (v'.ownBlock = v.ownBlock ∨ ∃ g, v'.ownBlock = some g ∧ w.heap.size ≤ g) → (w.alloc (.cells cs e)).grownBy w' v.ownBlock → wpList P ops Q rest (a.put o.dst v') w') :
    wpList P ops Q (o :: rest) a (w.alloc (.cells cs e)) := by
  subst hcs hH
  obtain ⟨i, hi, hz0, hz1, hz2⟩ := info_parts el.info
  have hlen : xs.length + 1 ≤ 140737488355328 := Nat.le_trans (Nat.le_mul_of_pos_right _ hb0) hbytes
  obtain ⟨v', w', hr, h2, h3, h5⟩ := run_appendQ (P := P) (w.alloc (.cells (E x).toArray e)) base t o.type e i z k bytes el.und hi hz0 hz1 hz2 el.zc el.pos v xs.length (xs.flatMap E) (hown.alloc _) ⟨w.heap.size, 0, none⟩ 1 c (E x) (by omega) (by rw [hE, Nat.one_mul])
    (fun j u hu => by
      have hadd : (⟨w.heap.size, 0, none⟩ : Addr).add j = ⟨w.heap.size, j, none⟩ := by unfold Addr.add; split <;> simp_all
      rw [hadd, World.cell?_alloc_new]
      simpa using hu) h1 (by unfold maxLen; omega) hbytes (by simp; omega)
  refine wpList_plain hgd fun K hK => ?_
  unfold Oper.wp execOp
  simp only [ho, resolve, invoke, builtin, Sem.run_bind, Sem.run_pure, Result.andThen_ok, List.map_toArray, List.map_cons, List.map_nil, hs, hy, hr]
  refine hK _ _ (h v' w' (by simpa using h2) ((((Below.refl base w).alloc hbase _)).trans ((Below.refl _ _).grown h3 (by simp; omega) (fun g hg => (hown.lt g hg).1))) ?_ h3)
  rcases h5 with h5 | h5
  · exact .inl h5
  · exact .inr ⟨_, h5, by simp⟩
end
end Go.Proofs.Ytallglnmeeahiaa

