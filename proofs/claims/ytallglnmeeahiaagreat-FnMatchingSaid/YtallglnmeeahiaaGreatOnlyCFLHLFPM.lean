/- Parts of the proof, joined into one text: AutI, SetI, GraphI, BothI, ArcM, ProdI, NextI, TurnI, Shelf, RepeatI, Queue, SpreadI, GoalI, DistI, FromI, DistS, Pick, Reslice, SortI, AnsI, AnsT, HelpPair, ShortI, ShortS, Tab, AllA, TwoD, WalkM. -/
import Derived.Test.YtallglnmeeahiaaGreatOnlyEHEILOHB
import Derived.Test.YtallglnmeeahiaaGreatOnlyDEGJKGJL
import Derived.Test.YtallglnmeeahiaaGreatOnlyFFCONIGA
import Derived.Shelf.Bits.Mul64
import Derived.Shelf.Slices.Turned
import Derived.Test.YtallglnmeeahiaaGreatProg
import Derived.Laws.CopyOwn
import Derived.Deep.RegionLaw
import Derived.Deep.LoopGhost
import Derived.Test.YtallglnmeeahiaaGreatOnlyKABCAAHN
import Derived.Test.YtallglnmeeahiaaGreatOnlyEMCELGCF
import Derived.Lib.Slices
import Derived.Test.YtallglnmeeahiaaGreatOnlyGKHBMKEF
import Derived.RegionTactic
import Derived.BigRegion
namespace Go.Proofs.YtallglnmeeahiaaGreat
set_option linter.unusedVariables false
set_option linter.unusedSimpArgs false
open Go.ChangeShapes Go.WideShapes Go.ChangeAt Go.RowKit
attribute [local go_sem] ext_cell ext_frozen ext_lt ext_lt1 ext_lt2 ext_lt3 ltn2 ltn3 ltn13 lts1 lts2 lts3
theorem within_any (n a b : Int) (w : World) : Calls Tryz.prog 32 #[.int .i64 n, .int .i64 a, .int .i64 b] w fun e w' => e = .returned (.bool (wi n a b)) ∧ w' = w := by
  unfold wi
  by_cases h1 : a ≤ n
  · have e1 : decide (a ≤ n) = true := by simpa using h1
    by_cases h2 : n ≤ b
    · go_enter Tryz.func32, Tryz.ntmps32
      go_wp2
      go_ret
      exact ⟨by simp [h1, h2], rfl⟩
    · go_enter Tryz.func32, Tryz.ntmps32
      go_wp2
      go_ret
      exact ⟨by simp [h1]; try omega, rfl⟩
  · have e1 : decide (a ≤ n) = false := by simpa using h1
    go_enter Tryz.func32, Tryz.ntmps32
    go_wp2
    go_ret
    exact ⟨by simp [h1]; try omega, rfl⟩
set_option maxHeartbeats 1000000 in
theorem implValidAutomaton (v : Value) (a : Au) (w : World) (hv : AuV 0 w.heap.size w v a) :
    Calls Tryz.prog 65 #[v] w fun e w' => e = .returned (.bool (auOk a)) ∧ Below w.heap.size w w' := by
  obtain ⟨ac, nx, rfl, ⟨A1, c1, rfl, hl1, hm1, -⟩, us, ⟨A2, c2, rfl, hl2, hm2, hx2⟩, hul, hrows⟩ := hv
  rw [hul] at hl2 ⊢
  have HU := Lib.hid hul
  clear hul
  unfold maxLen at hm1 hm2
  have hb0 : Below w.heap.size w (w.alloc (.cells #[.int .i64 a.start, .slice A1 a.accept.length c1, .slice A2 a.next.length c2] 31)) := (Below.refl _ _).alloc (Nat.le_refl _) _
  have HW := Lib.hid within_any
  by_cases g1 : wi a.accept.length 1 12 = true
  · by_cases g2 : wi a.start 0 ((a.accept.length : Int) - 1) = true
    · by_cases g3 : a.next.length = a.accept.length
      · have HG3 := Lib.hid g3
        have g3' : ((a.next.length : Int) != (a.accept.length : Int)) = false := by simp; omega
        have hr : auOk a = a.next.all (rowOk a.accept.length) := by simp [auOk, g1, g2, g3]
        have HR := Lib.hid hr
        clear hr g3
        obtain ⟨hn1, hn2⟩ := wi_iff.1 g1
        go_enter Tryz.func65, Tryz.ntmps65
        go_wp2_with (go_at_call 32; refine (HW.out _ _ _ _).mono ?_; rintro e w' ⟨rfl, rfl⟩)
        go_loop [32] (fun ii => ∃ i : Nat, i ≤ a.next.length ∧ ii = .int .i64 i ∧ (a.next.take i).all (rowOk a.accept.length) = true) (fun ii => a.next.length - (intOf ii).toNat)
        case atStart => exact ⟨0, Nat.zero_le _, rfl, rfl⟩
        case round =>
          obtain ⟨i, hi, rfl, hall⟩ := hrel
          have HA := Lib.hid hall
          clear hall
          by_cases hlt : i < a.next.length
          · obtain ⟨u, hu⟩ : ∃ u, us[i]? = some u := ⟨_, List.getElem?_eq_getElem (by have := HU.out; omega)⟩
            obtain ⟨b, o, rfl, -, hb1, hc⟩ := hx2 i u hu
            have hxi : a.next[i]? = some a.next[i] := List.getElem?_eq_getElem hlt
            have hvi := hrows i u _ hu hxi
            generalize a.next[i] = row at hvi hxi
            have c0 := hc 0 _ rfl
            simp only [Nat.mul_one, Nat.add_zero] at c0
            obtain ⟨A3, c3, rfl, hl3, hm3, hx3⟩ := hvi
            unfold maxLen at hm3
            have HX := Lib.hid hxi
            clear hc hx2 hu hxi hrows
            go_wp2_with fail
            go_loop [38] (fun jj => ∃ j : Nat, j ≤ row.length ∧ jj = .int .i64 j ∧ (row.take j).all (fun t => wi t (-1) ((a.accept.length : Int) - 1)) = true) (fun jj => row.length - (intOf jj).toNat)
            case atStart => exact ⟨0, Nat.zero_le _, rfl, rfl⟩
            case round =>
              obtain ⟨j, hj, rfl, hall2⟩ := hrel
              have HB := Lib.hid hall2
              clear hall2
              by_cases hlt2 : j < row.length
              · have hxj : row[j]? = some row[j] := List.getElem?_eq_getElem hlt2
                obtain ⟨b2, o2, rfl, -, hb2, hc2⟩ := hx3 j _ hxj
                generalize row[j] = t at hc2 hxj
                have d0 := hc2 0 _ rfl
                simp only [Nat.mul_one, Nat.add_zero] at d0
                have HXJ := Lib.hid hxj
                clear hc2 hx3 hxj
                by_cases g4 : wi t (-1) ((a.accept.length : Int) - 1) = true
                · go_wp2_with (go_at_call 32; refine (HW.out _ _ _ _).mono ?_; rintro e w' ⟨rfl, rfl⟩)
                  go_round
                  case rel => exact ⟨j + 1, by omega, by go_num, all_take_succ HXJ.out HB.out g4⟩
                  case measure => simp [intOf]; omega
                · simp only [Bool.not_eq_true] at g4
                  have hfin : auOk a = false := by
                    rw [HR.out]
                    refine all_false_of HX.out ?_
                    rw [rowOk, all_false_of HXJ.out g4]
                    rfl
                  have HF := Lib.hid hfin
                  clear hfin
                  go_wp2_with (go_at_call 32; refine (HW.out _ _ _ _).mono ?_; rintro e w' ⟨rfl, rfl⟩)
                  go_ret
                  exact ⟨by rw [HF.out]; rfl, hb0⟩
              · obtain rfl : j = row.length := by omega
                have hall3 : row.all (fun t => wi t (-1) ((a.accept.length : Int) - 1)) = true := by have := HB.out; rwa [List.take_length] at this
                have H3 := Lib.hid hall3
                clear hall3
                clear hx3
                by_cases g9 : row.length = 9
                · have g9' : ((row.length : Int) != 9) = false := by simp; omega
                  have hok : rowOk a.accept.length row = true := by rw [rowOk, H3.out, g9]; rfl
                  have HO := Lib.hid hok
                  clear hok g9
                  go_wp2_with fail
                  go_round
                  case rel => exact ⟨i + 1, by omega, by go_num, all_take_succ HX.out HA.out HO.out⟩
                  case measure => simp [intOf]; omega
                · have g9' : ((row.length : Int) != 9) = true := by simp; omega
                  have hfin : auOk a = false := by
                    rw [HR.out]
                    refine all_false_of HX.out ?_
                    rw [rowOk]
                    simp [g9]
                  have HF := Lib.hid hfin
                  clear hfin g9
                  go_wp2_with fail
                  go_ret
                  exact ⟨by rw [HF.out]; rfl, hb0⟩
          · obtain rfl : i = a.next.length := by omega
            have hfin : auOk a = true := by rw [HR.out]; have := HA.out; rwa [List.take_length] at this
            have HF := Lib.hid hfin
            clear hfin hx2 hrows
            go_wp2_with fail
            go_ret
            exact ⟨by rw [HF.out]; rfl, hb0⟩
      · have g3' : ((a.next.length : Int) != (a.accept.length : Int)) = true := by simp; omega
        have hr : auOk a = false := by simp [auOk, g3]
        have HR := Lib.hid hr
        clear hr g3
        go_enter Tryz.func65, Tryz.ntmps65
        go_wp2_with (go_at_call 32; refine (HW.out _ _ _ _).mono ?_; rintro e w' ⟨rfl, rfl⟩)
        go_ret
        exact ⟨by rw [HR.out]; rfl, hb0⟩
    · simp only [Bool.not_eq_true] at g2
      have hr : auOk a = false := by simp [auOk, g2]
      have HR := Lib.hid hr
      clear hr
      go_enter Tryz.func65, Tryz.ntmps65
      go_wp2_with (go_at_call 32; refine (HW.out _ _ _ _).mono ?_; rintro e w' ⟨rfl, rfl⟩)
      go_ret
      exact ⟨by rw [HR.out]; rfl, hb0⟩
  · simp only [Bool.not_eq_true] at g1
    have hr : auOk a = false := by simp [auOk, g1]
    have HR := Lib.hid hr
    clear hr
    go_enter Tryz.func65, Tryz.ntmps65
    go_wp2_with (go_at_call 32; refine (HW.out _ _ _ _).mono ?_; rintro e w' ⟨rfl, rfl⟩)
    go_ret
    exact ⟨by rw [HR.out]; rfl, hb0⟩
end Go.Proofs.YtallglnmeeahiaaGreat
namespace Go.Proofs.YtallglnmeeahiaaGreat
set_option linter.unusedVariables false
set_option linter.unusedSimpArgs false
open Go.ChangeShapes Go.WideShapes Go.ChangeAt Go.RowKit
attribute [local go_sem] ext_cell ext_frozen ext_lt ext_lt1 ext_lt2 ext_lt3 ltn2 ltn3 ltn13 lts1 lts2 lts3
theorem isLetter_any (n : Int) (w : World) : Calls Tryz.prog 106 #[.int .i64 n] w fun e w' => e = .returned (.bool (wi n 0 8)) ∧ w' = w := by
  have HW := Lib.hid within_any
  go_enter Tryz.func106, Tryz.ntmps106
  go_wp2_with (go_at_call 32; refine (HW.out _ _ _ _).mono ?_; rintro e w' ⟨rfl, rfl⟩)
  go_ret
  exact ⟨rfl, rfl⟩
def mvI (a : Au) (s l : Int) : Int := if 0 ≤ s ∧ wi l 0 8 = true then mv a s.toNat l.toNat else -1
theorem mvI_in {a : Au} {s l : Nat} (hl : l < 9) : mvI a s l = mv a s l := by
  rw [mvI, if_pos ⟨by omega, wi_iff.2 ⟨by omega, by omega⟩⟩]; simp
set_option maxHeartbeats 1000000 in
theorem move_any (v : Value) (a : Au) (s l : Int) (w : World) (hv : AuV 0 w.heap.size w v a) (hok : auOk a = true) (hs : s < (a.accept.length : Int)) :
    Calls Tryz.prog 92 #[v, .int .i64 s, .int .i64 l] w fun e w' => e = .returned (.int .i64 (mvI a s l)) ∧ Below w.heap.size w w' := by
  obtain ⟨A1, c1, A2, c2, rfl, hl1, hm1, hl2, hm2, hC⟩ := hv.form hok
  have HL := Lib.hid isLetter_any
  have hb0 : Below w.heap.size w (w.alloc (.cells #[.int .i64 a.start, .slice A1 a.accept.length c1, .slice A2 a.accept.length c2] 31)) := (Below.refl _ _).alloc (Nat.le_refl _) _
  have HOK := Lib.hid hok
  clear hok hv
  by_cases h0 : s < 0
  · have hfin : mvI a s l = -1 := by rw [mvI, if_neg (by omega)]
    have HF := Lib.hid hfin
    clear hfin
    go_enter Tryz.func92, Tryz.ntmps92
    go_wp2_with fail
    go_ret
    exact ⟨by rw [HF.out]; rfl, hb0⟩
  · obtain ⟨s, rfl⟩ := Int.eq_ofNat_of_zero_le (show 0 ≤ s by omega)
    cases hl : wi l 0 8 with
    | false =>
      have hfin : mvI a s l = -1 := by rw [mvI, if_neg (by simp [hl])]
      have HF := Lib.hid hfin
      clear hfin
      go_enter Tryz.func92, Tryz.ntmps92
      go_wp2_with (go_at_call 106; refine (HL.out _ _).mono ?_; rintro e w' ⟨rfl, rfl⟩)
      go_ret
      exact ⟨by rw [HF.out]; rfl, hb0⟩
    | true =>
      have hl0 := wi_iff.1 hl
      obtain ⟨l, rfl⟩ := Int.eq_ofNat_of_zero_le hl0.1
      obtain ⟨b2, o2, b3, o3, c3, rfl, hb2, d2, hl3, hm3, hb3, hc3⟩ := hC.row s (by omega)
      have hl9 : l < 9 := by omega
      have d3 := hc3 l hl9
      have HF := Lib.hid (mvI_in (a := a) (s := s) (l := l) (by omega))
      clear hc3 hC hl0
      go_enter Tryz.func92, Tryz.ntmps92
      go_wp2_with (go_at_call 106; refine (HL.out _ _).mono ?_; rintro e w' ⟨rfl, rfl⟩)
      go_ret
      exact ⟨by rw [HF.out]; rfl, hb0⟩
set_option maxHeartbeats 1000000 in
theorem closure_any (v : Value) (a : Au) (s x : Nat) (w : World) (hv : AuV 0 w.heap.size w v a) (hok : auOk a = true) (hs : s < a.accept.length) (hx : x ≤ 2) :
    Calls Tryz.prog 74 #[v, .int .i64 (s : Int), .int .i64 (x : Int)] w fun e w' => e = .returned (.int .i64 (cls a x s : Int)) ∧ Below w.heap.size w w' := by
  have hv0 := hv
  obtain ⟨A1, c1, A2, c2, rfl, -⟩ := hv.form hok
  clear hv
  have hn12 : a.accept.length ≤ 12 := (auOk_iff.1 hok).1.2
  have hb0 : Below w.heap.size w (w.alloc (.cells #[.int .i64 a.start, .slice A1 a.accept.length c1, .slice A2 a.accept.length c2] 31)) := (Below.refl _ _).alloc (Nat.le_refl _) _
  have HV := Lib.hid hv0
  have HOK := Lib.hid hok
  clear hok
  obtain ⟨R, hR⟩ : ∃ R, R = cls a x s := ⟨_, rfl⟩
  rw [← hR]
  have HR := Lib.hid hR
  clear hR hv0
  go_enter Tryz.func74, Tryz.ntmps74
  go_wp2_with fail
  go_loopw [7, 8] (fun st ss wr => ∃ (f m : Nat) (s : Int) (u : World), st = .int .i64 (m : Int) ∧ ss = .int .i64 s ∧ clsF a (6 + x) f s m = R ∧ f + (mem 12 m).length = 13 ∧ m < 2 ^ a.accept.length ∧ s < (a.accept.length : Int) ∧ wr = ext (w.alloc (.cells #[.int .i64 a.start, .slice A1 a.accept.length c1, .slice A2 a.accept.length c2] 31)) u) (fun st _ _ => 13 - (mem 12 (intOf st).toNat).length)
  case atStart => exact ⟨13, 0, s, _, rfl, rfl, HR.out.symm, by simp [mem], Nat.two_pow_pos _, by omega, ext_self _⟩
  case round =>
    obtain ⟨f, m, s, u, rfl, rfl, hcl, hf, hm, hs, rfl⟩ := hrel
    have hm2 := lt12 HOK.out hm
    have hml := mem_len 12 m
    have HC := Lib.hid hcl
    have HFC := Lib.hid hf
    have hbw := below_trans hb0 (ext_below _ u)
    clear hcl hf
    by_cases h0 : 0 ≤ s
    · obtain ⟨s, rfl⟩ := Int.eq_ofNat_of_zero_le h0
      have hs12 : s < 12 := by omega
      have e1 := shl_bit (s := s) (by omega)
      have e2 := or_ins (m := m) (s := s) (by omega) (by omega)
      cases hb : m.testBit s with
      | true =>
        have e3 := bit_on (by omega) (by omega) hb
        have hfin : m = R := by rw [← HC.out]; exact (clsF_stop (.inr (by simpa using hb))).symm
        have HF := Lib.hid hfin
        clear hfin hb h0
        go_wp2_with fail
        go_ret
        exact ⟨by rw [HF.out]; rfl, hbw⟩
      | false =>
        have e3 := bit_off (by omega) (by omega) hb
        have HB := Lib.hid hb
        have hmv := mv_lt HOK.out s (6 + x)
        clear hb h0
        go_wp2_with fail
        refine (move_any _ a (s : Int) _ _ (HV.out.keep hbw) HOK.out (by omega)).mono ?_
        rintro e w1 ⟨rfl, hb1⟩
        obtain ⟨u1, rfl⟩ := ext_of (below_trans (ext_below _ u) hb1)
        rw [show (6 : Int) + (x : Int) = ((6 + x : Nat) : Int) by omega, mvI_in (by omega)]
        go_wp2_with fail
        go_roundw
        case rel =>
          have h1 := cnt_or (n := 12) (m := m) hs12 HB.out
          have h2 := HFC.out
          obtain ⟨f, rfl⟩ : ∃ f', f = f' + 1 := ⟨f - 1, by omega⟩
          refine ⟨f, ins m s, _, _, rfl, rfl, by rw [← HC.out]; exact (clsF_go HB.out).symm, by omega, ins_lt hm (by omega), by omega, rfl⟩
        case measure =>
          have h1 := cnt_or (n := 12) (m := m) hs12 HB.out
          simp [intOf]; omega
    · have hfin : m = R := by rw [← HC.out]; exact (clsF_stop (.inl (by omega))).symm
      have h0' : decide (s ≥ 0) = false := by simp; omega
      have HF := Lib.hid hfin
      clear hfin
      go_wp2_with fail
      go_ret
      exact ⟨by rw [HF.out]; rfl, hbw⟩
set_option maxHeartbeats 1000000 in
theorem members_any (m : Nat) (w : World) (hm : m < 4096) :
    Calls Tryz.prog 47 #[.int .i64 (m : Int)] w fun e w' => ∃ v', e = .returned v' ∧ Own w.heap.size w'.heap.size w' 3 cN 1 v' (mem 12 m) ∧ Below w.heap.size w w' := by
  obtain ⟨R, hR⟩ : ∃ R, R = mem 12 m := ⟨_, rfl⟩
  rw [← hR]
  have HR := Lib.hid hR
  clear hR
  go_enter Tryz.func47, Tryz.ntmps47
  go_wp2_with fail
  go_loopw [3, 4] (fun out ii wr => ∃ i : Nat, i ≤ 12 ∧ ii = .int .i64 (i : Int) ∧ wr.ownsRow w.heap.size 3 1 out (mem i m).length ((mem i m).flatMap cN) ∧ Below w.heap.size w wr) (fun _ ii _ => 12 - (intOf ii).toNat)
  case atStart => exact ⟨0, Nat.zero_le _, rfl, World.ownsRow_lit w #[] 0 (Nat.le_refl _) (by decide) rfl, (Below.refl _ _).alloc (Nat.le_refl _) _⟩
  case round =>
    obtain ⟨i, hi, rfl, hrow, hbel⟩ := hrel
    have HROW := Lib.hid hrow
    have hs := hbel.size
    have hml := mem_len i m
    clear hrow
    by_cases hlt : 2 ^ i ≤ m
    · have e1 := shr_on (by omega) hlt
      have hi12 : i < 12 := by
        rcases Nat.lt_or_ge i 12 with h | h
        · exact h
        · have : 2 ^ 12 ≤ 2 ^ i := Nat.pow_le_pow_right (by omega) h
          omega
      clear hlt
      cases hb : m.testBit i with
      | true =>
        have e3 := bit_on (by omega) (by omega) hb
        have HM := Lib.hid (mem_yes hb)
        clear hb
        go_wp2_with (at_builtin; (refine wpList_append1 cN elInt rfl _ _ rfl w.heap.size _ (mem i m) i _ 1 _ (by rfl) HROW.out (by rfl) rfl rfl rfl (cN_one _) (by omega) (by omega) hs ?_); rw [← HM.out]; intro v' w4 hrow' hb4 _ _)
        go_roundw
        case rel => exact ⟨i + 1, by omega, by go_num, hrow', hbel.trans hb4⟩
        case measure => simp [intOf]; omega
      | false =>
        have e3 := bit_off (by omega) (by omega) hb
        have HM := Lib.hid (mem_no hb)
        clear hb
        go_wp2_with fail
        go_roundw
        case rel => exact ⟨i + 1, by omega, by go_num, by rw [HM.out]; exact HROW.out, hbel⟩
        case measure => simp [intOf]; omega
    · have e1 := shr_off (i := i) (m := m) (by omega) (by omega)
      have hfin : R = mem i m := by rw [HR.out]; exact mem_stop (by omega) hi
      have HF := Lib.hid hfin
      clear hfin hlt
      go_wp2_with fail
      go_ret
      exact ⟨_, rfl, by rw [HF.out]; exact Own.of_row HROW.out rfl rfl, hbel⟩
set_option maxHeartbeats 2000000 in
theorem after_any (v : Value) (a : Au) (set x l : Nat) (w : World) (hv : AuV 0 w.heap.size w v a) (hok : auOk a = true) (hset : set < 2 ^ a.accept.length) (hx : x ≤ 2) (hl : l < 9) :
    Calls Tryz.prog 68 #[v, .int .i64 (set : Int), .int .i64 (x : Int), .int .i64 (l : Int)] w fun e w' => e = .returned (.int .i64 (aft a set x l : Int)) ∧ Below w.heap.size w w' := by
  have hv0 := hv
  obtain ⟨A1, c1, A2, c2, rfl, -⟩ := hv.form hok
  clear hv
  have hn12 : a.accept.length ≤ 12 := (auOk_iff.1 hok).1.2
  have hb0 : Below w.heap.size w (w.alloc (.cells #[.int .i64 a.start, .slice A1 a.accept.length c1, .slice A2 a.accept.length c2] 31)) := (Below.refl _ _).alloc (Nat.le_refl _) _
  have HV := Lib.hid hv0
  have HOK := Lib.hid hok
  have HSET := Lib.hid hset
  have h4096 := lt12 hok hset
  clear hok hv0 hset
  go_enter Tryz.func68, Tryz.ntmps68
  go_wp2_with fail
  refine (members_any set _ h4096).mono ?_
  rintro e w1 ⟨v1, rfl, ho, hb1⟩
  obtain ⟨A3, c3, rfl, hl3, hm3, hC3⟩ := ho.form cN_len
  have hml := mem_len 12 set
  have hb2 := below_trans hb0 hb1
  have HC3 := Lib.hid hC3
  have b0 := (Blk.new w _ _ w.heap.size rfl).keep hb1
  have x0 : w1.cell? ⟨w.heap.size, 0, none⟩ = some _ := b0.cell 0
  have x1 : w1.cell? ⟨w.heap.size, 1, none⟩ = some _ := b0.cell 1
  have x2 : w1.cell? ⟨w.heap.size, 2, none⟩ = some _ := b0.cell 2
  have l0 := b0.lt
  clear b0
  clear hb1 hb0 ho hC3
  go_wp2_with fail
  have hfl : ∀ i, ((mem 12 set).take i).foldl (aftS a x l) 0 < 2 ^ a.accept.length := fun i => foldl_inv (P := fun m => m < 2 ^ a.accept.length) (fun m s hm => aftS_lt HOK.out x l m s hm) _ _ (Nat.two_pow_pos _)
  have HFL := Lib.hid hfl
  clear hfl
  go_loopw [9, 18] (fun out ii wr => ∃ (i : Nat) (u : World), i ≤ (mem 12 set).length ∧ ii = .int .i64 (i : Int) ∧ out = .int .i64 (((mem 12 set).take i).foldl (aftS a x l) 0 : Nat) ∧ wr = ext w1 u) (fun _ ii _ => (mem 12 set).length - (intOf ii).toNat)
  case atStart => exact ⟨0, w1, Nat.zero_le _, rfl, rfl, ext_self _⟩
  case round =>
    obtain ⟨i, u, hi, rfl, rfl, rfl⟩ := hrel
    by_cases hlt : i < (mem 12 set).length
    · have hsi : (mem 12 set)[i]? = some (mem 12 set)[i] := List.getElem?_eq_getElem hlt
      have hsm := mem_mem.1 (List.getElem_mem hlt)
      generalize (mem 12 set)[i] = s at hsi hsm
      have hsn : s < a.accept.length := by
        rcases Nat.lt_or_ge s a.accept.length with h | h
        · exact h
        · have := Nat.testBit_lt_two_pow (Nat.lt_of_lt_of_le HSET.out (Nat.pow_le_pow_right (by omega) h))
          rw [hsm.2] at this; cases this
      obtain ⟨b3, o3, rfl, hb3, d3⟩ := HC3.out.nat hsi
      have HFT := Lib.hid (foldl_take (f := aftS a x l) hsi 0)
      have hbw := below_trans hb2 (ext_below w1 u)
      have hm0 := HFL.out i
      generalize ((mem 12 set).take i).foldl (aftS a x l) 0 = m0 at *
      clear hsi hsm
      go_wp2_with fail
      refine (closure_any _ a s x _ (HV.out.keep hbw) HOK.out hsn hx).mono ?_
      rintro e w2 ⟨rfl, hb5⟩
      obtain ⟨u2, rfl⟩ := ext_of (below_trans (ext_below w1 u) hb5)
      have hcl := cls_lt HOK.out x s hsn
      have hcl4 := lt12 HOK.out hcl
      go_wp2_with fail
      refine (members_any (cls a x s) _ hcl4).mono ?_
      rintro e w3 ⟨v4, rfl, ho4, hb6⟩
      obtain ⟨A4, c4, rfl, hl4, hm4, hC4⟩ := ho4.form cN_len
      have hml4 := mem_len 12 (cls a x s)
      have hb7 := below_trans (ext_below w1 u2) hb6
      have hb8 := below_trans hb2 hb7
      have x0 := bcell hb7 x0 l0
      have x1 := bcell hb7 x1 l0
      have x2 := bcell hb7 x2 l0
      have l0 := Nat.lt_of_lt_of_le l0 hb7.size
      have HC4 := Lib.hid hC4
      have HCL := Lib.hid hcl
      clear hb6 hb5 hbw ho4 hC4 hcl
      go_wp2_with fail
      go_loopw [9, 28] (fun out jj wr => ∃ (j : Nat) (u : World), j ≤ (mem 12 (cls a x s)).length ∧ jj = .int .i64 (j : Int) ∧ out = .int .i64 (((mem 12 (cls a x s)).take j).foldl (aft1 a l) m0 : Nat) ∧ wr = ext w3 u) (fun _ jj _ => (mem 12 (cls a x s)).length - (intOf jj).toNat)
      case atStart => exact ⟨0, w3, Nat.zero_le _, rfl, rfl, ext_self _⟩
      case round =>
        obtain ⟨j, u3, hj, rfl, rfl, rfl⟩ := hrel
        by_cases hlt2 : j < (mem 12 (cls a x s)).length
        · have hti : (mem 12 (cls a x s))[j]? = some (mem 12 (cls a x s))[j] := List.getElem?_eq_getElem hlt2
          have htm := mem_mem.1 (List.getElem_mem hlt2)
          generalize (mem 12 (cls a x s))[j] = t at hti htm
          have htn : t < a.accept.length := by
            rcases Nat.lt_or_ge t a.accept.length with h | h
            · exact h
            · have := Nat.testBit_lt_two_pow (Nat.lt_of_lt_of_le HCL.out (Nat.pow_le_pow_right (by omega) h))
              rw [htm.2] at this; cases this
          obtain ⟨b4, o4, rfl, hb4, d4⟩ := HC4.out.nat hti
          have HFT2 := Lib.hid (foldl_take (f := aft1 a l) hti m0)
          have hm1 : ((mem 12 (cls a x s)).take j).foldl (aft1 a l) m0 < 2 ^ a.accept.length := foldl_inv (P := fun m => m < 2 ^ a.accept.length) (fun m s hm => aft1_lt HOK.out l m s hm) _ _ hm0
          have hm14 := lt12 HOK.out hm1
          generalize ((mem 12 (cls a x s)).take j).foldl (aft1 a l) m0 = m1 at *
          have hbw := below_trans hb8 (ext_below w3 u3)
          have hmv := mv_lt HOK.out t l
          have HA := Lib.hid (show aft1 a l m1 t = if 0 ≤ mv a t l then ins m1 (mv a t l).toNat else m1 from rfl)
          clear hti htm hm0
          go_wp2_with fail
          refine (move_any _ a (t : Int) (l : Int) _ (HV.out.keep hbw) HOK.out (by omega)).mono ?_
          rintro e w4 ⟨rfl, hb9⟩
          obtain ⟨u4, rfl⟩ := ext_of (below_trans (ext_below w3 u3) hb9)
          rw [mvI_in hl]
          clear hb9
          by_cases h0 : 0 ≤ mv a t l
          · generalize mv a t l = z at *
            obtain ⟨z, rfl⟩ := Int.eq_ofNat_of_zero_le h0
            have e1 := shl_bit (s := z) (by omega)
            have e2 := or_ins (m := m1) (s := z) (by omega) (by omega)
            go_wp2_with fail
            go_roundw
            case rel => exact ⟨j + 1, u4, by omega, by go_num, by rw [HFT2.out, HA.out, if_pos h0]; simp, rfl⟩
            case measure => simp [intOf]; omega
          · have h0' : decide (mv a t l ≥ 0) = false := by simp; omega
            go_wp2_with fail
            go_roundw
            case rel => exact ⟨j + 1, u4, by omega, by go_num, by rw [HFT2.out, HA.out, if_neg (by omega)], rfl⟩
            case measure => simp [intOf]; omega
        · obtain rfl : j = (mem 12 (cls a x s)).length := by omega
          have HT := Lib.hid (show ((mem 12 (cls a x s)).take (mem 12 (cls a x s)).length).foldl (aft1 a l) m0 = aftS a x l m0 s by rw [List.take_length]; rfl)
          go_wp2_with fail
          go_roundw
          case rel =>
            obtain ⟨u5, hu5⟩ := ext_of (below_trans hb7 (ext_below w3 u3))
            exact ⟨i + 1, u5, by omega, by go_num, by rw [HFT.out, HT.out], hu5⟩
          case measure => simp [intOf]; omega
    · obtain rfl : i = (mem 12 set).length := by omega
      have HT := Lib.hid (show ((mem 12 set).take (mem 12 set).length).foldl (aftS a x l) 0 = aft a set x l by rw [List.take_length]; rfl)
      go_wp2_with fail
      go_ret
      exact ⟨by rw [HT.out]; rfl, below_trans hb2 (ext_below w1 u)⟩
theorem bit_in {n m t : Nat} (hm : m < 2 ^ n) (ht : m.testBit t = true) : t < n := by
  rcases Nat.lt_or_ge t n with h | h
  · exact h
  · have := Nat.testBit_lt_two_pow (Nat.lt_of_lt_of_le hm (Nat.pow_le_pow_right (by omega) h))
    rw [ht] at this; cases this
theorem any_take {α : Type} {p : α → Bool} {xs : List α} {i : Nat} {x : α} (h : xs[i]? = some x) : (xs.take (i + 1)).any p = ((xs.take i).any p || p x) := by
  rw [take_snoc h, List.any_append]; simp
theorem any_of_at {α : Type} {p : α → Bool} {xs : List α} {i : Nat} {x : α} (h : xs[i]? = some x) (hp : p x = true) : xs.any p = true := List.any_eq_true.2 ⟨x, List.mem_of_getElem? h, hp⟩
set_option maxHeartbeats 2000000 in
theorem acceptsAt_any (v : Value) (a : Au) (set x : Nat) (w : World) (hv : AuV 0 w.heap.size w v a) (hok : auOk a = true) (hset : set < 2 ^ a.accept.length) (hx : x ≤ 2) :
    Calls Tryz.prog 46 #[v, .int .i64 (set : Int), .int .i64 (x : Int)] w fun e w' => e = .returned (.bool (acc a set x)) ∧ Below w.heap.size w w' := by
  have hv0 := hv
  obtain ⟨A1, c1, A2, c2, rfl, hl1, hm1, -, -, hAC, -⟩ := hv.form hok
  clear hv
  have hn12 : a.accept.length ≤ 12 := (auOk_iff.1 hok).1.2
  have hb0 : Below w.heap.size w (w.alloc (.cells #[.int .i64 a.start, .slice A1 a.accept.length c1, .slice A2 a.accept.length c2] 31)) := (Below.refl _ _).alloc (Nat.le_refl _) _
  have HV := Lib.hid hv0
  have HOK := Lib.hid hok
  have HSET := Lib.hid hset
  have HAC := Lib.hid hAC
  have h4096 := lt12 hok hset
  clear hok hv0 hset hAC
  go_enter Tryz.func46, Tryz.ntmps46
  go_wp2_with fail
  refine (members_any set _ h4096).mono ?_
  rintro e w1 ⟨v1, rfl, ho, hb1⟩
  obtain ⟨A3, c3, rfl, hl3, hm3, hC3⟩ := ho.form cN_len
  have hml := mem_len 12 set
  have hb2 := below_trans hb0 hb1
  have HC3 := Lib.hid hC3
  have b0 := (Blk.new w _ _ w.heap.size rfl).keep hb1
  have x0 : w1.cell? ⟨w.heap.size, 0, none⟩ = some _ := b0.cell 0
  have x1 : w1.cell? ⟨w.heap.size, 1, none⟩ = some _ := b0.cell 1
  have x2 : w1.cell? ⟨w.heap.size, 2, none⟩ = some _ := b0.cell 2
  have l0 := b0.lt
  clear b0
  clear hb1 hb0 ho hC3
  go_wp2_with fail
  go_loopw [14] (fun ii wr => ∃ (i : Nat) (u : World), i ≤ (mem 12 set).length ∧ ii = .int .i64 (i : Int) ∧ ((mem 12 set).take i).any (accC a x) = false ∧ wr = ext w1 u) (fun ii _ => (mem 12 set).length - (intOf ii).toNat)
  case atStart => exact ⟨0, w1, Nat.zero_le _, rfl, rfl, ext_self _⟩
  case round =>
    obtain ⟨i, u, hi, rfl, hno, rfl⟩ := hrel
    have HNO := Lib.hid hno
    clear hno
    by_cases hlt : i < (mem 12 set).length
    · have hsi : (mem 12 set)[i]? = some (mem 12 set)[i] := List.getElem?_eq_getElem hlt
      have hsm := mem_mem.1 (List.getElem_mem hlt)
      generalize (mem 12 set)[i] = s at hsi hsm
      have hsn := bit_in HSET.out hsm.2
      obtain ⟨b3, o3, rfl, hb3, d3⟩ := HC3.out.nat hsi
      have hbw := below_trans hb2 (ext_below w1 u)
      have HSI := Lib.hid hsi
      clear hsi hsm
      go_wp2_with fail
      refine (closure_any _ a s x _ (HV.out.keep hbw) HOK.out hsn hx).mono ?_
      rintro e w2 ⟨rfl, hb5⟩
      obtain ⟨u2, rfl⟩ := ext_of (below_trans (ext_below w1 u) hb5)
      have hcl := cls_lt HOK.out x s hsn
      have hcl4 := lt12 HOK.out hcl
      go_wp2_with fail
      refine (members_any (cls a x s) _ hcl4).mono ?_
      rintro e w3 ⟨v4, rfl, ho4, hb6⟩
      obtain ⟨A4, c4, rfl, hl4, hm4, hC4⟩ := ho4.form cN_len
      have hml4 := mem_len 12 (cls a x s)
      have hb7 := below_trans (ext_below w1 u2) hb6
      have hb8 := below_trans hb2 hb7
      have x0 := bcell hb7 x0 l0
      have x1 := bcell hb7 x1 l0
      have x2 := bcell hb7 x2 l0
      have l0 := Nat.lt_of_lt_of_le l0 hb7.size
      have HC4 := Lib.hid hC4
      have HCL := Lib.hid hcl
      have HAC3 := Lib.hid (HAC.out.keep hb8)
      have HAE := Lib.hid (show accC a x s = (mem 12 (cls a x s)).any fun t => a.accept.getD t false from rfl)
      clear hb6 hb5 hbw ho4 hC4 hcl
      go_wp2_with fail
      go_loopw [24] (fun jj wr => ∃ (j : Nat) (u : World), j ≤ (mem 12 (cls a x s)).length ∧ jj = .int .i64 (j : Int) ∧ ((mem 12 (cls a x s)).take j).any (fun t => a.accept.getD t false) = false ∧ wr = ext w3 u) (fun jj _ => (mem 12 (cls a x s)).length - (intOf jj).toNat)
      case atStart => exact ⟨0, w3, Nat.zero_le _, rfl, rfl, ext_self _⟩
      case round =>
        obtain ⟨j, u3, hj, rfl, hno, rfl⟩ := hrel
        have HNJ := Lib.hid hno
        clear hno
        by_cases hlt2 : j < (mem 12 (cls a x s)).length
        · have hti : (mem 12 (cls a x s))[j]? = some (mem 12 (cls a x s))[j] := List.getElem?_eq_getElem hlt2
          have htm := mem_mem.1 (List.getElem_mem hlt2)
          generalize (mem 12 (cls a x s))[j] = t at hti htm
          have htn := bit_in HCL.out htm.2
          obtain ⟨b4, o4, rfl, hb4, d4⟩ := HC4.out.nat hti
          have hbw := below_trans hb8 (ext_below w3 u3)
          have hai : a.accept[t]? = some a.accept[t] := List.getElem?_eq_getElem htn
          obtain ⟨b5, o5, rfl, hb5, d5⟩ := HAC3.out.bool hai
          have hag : a.accept.getD t false = a.accept[t] := by simp [List.getD, hai]
          generalize a.accept[t] = b at *
          have HAG := Lib.hid hag
          have HTI := Lib.hid hti
          clear hti htm hai hag
          cases b with
          | true =>
            have hfin : acc a set x = true := any_of_at HSI.out (by rw [HAE.out]; exact any_of_at HTI.out HAG.out)
            have HF := Lib.hid hfin
            clear hfin
            go_wp2_with fail
            go_ret
            exact ⟨by rw [HF.out]; rfl, hbw⟩
          | false =>
            go_wp2_with fail
            go_roundw
            case rel => exact ⟨j + 1, u3, by omega, by go_num, by rw [any_take HTI.out, HNJ.out, HAG.out]; rfl, rfl⟩
            case measure => simp [intOf]; omega
        · obtain rfl : j = (mem 12 (cls a x s)).length := by omega
          have HT := Lib.hid (show accC a x s = false by have h := HNJ.out; rw [List.take_length] at h; rw [HAE.out]; exact h)
          go_wp2_with fail
          go_roundw
          case rel =>
            obtain ⟨u5, hu5⟩ := ext_of (below_trans hb7 (ext_below w3 u3))
            exact ⟨i + 1, u5, by omega, by go_num, by rw [any_take HSI.out, HNO.out, HT.out]; rfl, hu5⟩
          case measure => simp [intOf]; omega
    · obtain rfl : i = (mem 12 set).length := by omega
      have HT := Lib.hid (show acc a set x = false by have h := HNO.out; rw [List.take_length] at h; exact h)
      go_wp2_with fail
      go_ret
      exact ⟨by rw [HT.out]; rfl, below_trans hb2 (ext_below w1 u)⟩
end Go.Proofs.YtallglnmeeahiaaGreat
namespace Go.Proofs.YtallglnmeeahiaaGreat
set_option linter.unusedVariables false
set_option linter.unusedSimpArgs false
open Go.ChangeShapes Go.WideShapes Go.ChangeAt Go.RowKit
attribute [local go_sem] ext_cell ext_frozen ext_lt ext_lt1 ext_lt2 ext_lt3 ltn2 ltn3 ltn13 lts1 lts2 lts3
set_option maxHeartbeats 1000000 in
theorem edgeOk_any (e : Ed) (n : Nat) (w : World) (hn : n ≤ 9223372036854775807) :
    Calls Tryz.prog 89 #[.agg #[.int .i64 e.1, .int .i64 e.2.1, .int .i64 e.2.2.1, .int .i64 e.2.2.2], .int .i64 (n : Int)] w fun en w' => en = .returned (.bool (edOk n e)) ∧ Below w.heap.size w w' := by
  obtain ⟨a, b, c, d⟩ := e
  have HW := Lib.hid within_any
  unfold edOk
  simp only
  have hb0 : Below w.heap.size w (w.alloc (.cells #[.int .i64 a, .int .i64 b, .int .i64 c, .int .i64 d] 106)) := (Below.refl _ _).alloc (Nat.le_refl _) _
  cases g1 : wi a 1 99 with
  | false =>
    have HZ := Lib.hid g1
    go_enter Tryz.func89, Tryz.ntmps89
    go_wp2_with (go_at_call 32; refine (HW.out _ _ _ _).mono ?_; rintro e w' ⟨rfl, rfl⟩)
    go_ret
    exact ⟨rfl, hb0⟩
  | true =>
    cases g2 : wi b 0 ((n : Int) - 1) with
    | false =>
      go_enter Tryz.func89, Tryz.ntmps89
      go_wp2_with (go_at_call 32; refine (HW.out _ _ _ _).mono ?_; rintro e w' ⟨rfl, rfl⟩)
      go_ret
      exact ⟨rfl, hb0⟩
    | true =>
      cases g3 : wi c 0 ((n : Int) - 1) with
      | false =>
        go_enter Tryz.func89, Tryz.ntmps89
        go_wp2_with (go_at_call 32; refine (HW.out _ _ _ _).mono ?_; rintro e w' ⟨rfl, rfl⟩)
        go_ret
        exact ⟨rfl, hb0⟩
      | true =>
        go_enter Tryz.func89, Tryz.ntmps89
        go_wp2_with (go_at_call 32; refine (HW.out _ _ _ _).mono ?_; rintro e w' ⟨rfl, rfl⟩)
        go_ret
        exact ⟨rfl, hb0⟩
set_option maxHeartbeats 2000000 in
theorem implValidGraph (v : Value) (g : Gr) (w : World) (hv : GrV 0 w.heap.size w v g) :
    Calls Tryz.prog 64 #[v] w fun e w' => e = .returned (.bool (grOk g)) ∧ Below w.heap.size w w' := by
  obtain ⟨vs, es, rfl, ⟨A1, c1, rfl, hl1, hm1, hx1⟩, ⟨A2, c2, rfl, hl2, hm2, hx2⟩⟩ := hv
  unfold maxLen at hm1 hm2
  have hb0 : Below w.heap.size w (w.alloc (.cells #[.slice A1 g.vals.length c1, .slice A2 g.edges.length c2] 27)) := (Below.refl _ _).alloc (Nat.le_refl _) _
  have HW := Lib.hid within_any
  have HX1 := Lib.hid hx1
  have HX2 := Lib.hid hx2
  clear hx1 hx2
  go_enter Tryz.func64, Tryz.ntmps64
  go_wp2_with fail
  go_loop [14] (fun ii => ∃ i : Nat, i ≤ g.vals.length ∧ ii = .int .i64 i ∧ (g.vals.take i).all (fun v => wi v 0 2) = true) (fun ii => g.vals.length - (intOf ii).toNat)
  case atStart => exact ⟨0, Nat.zero_le _, rfl, rfl⟩
  case round =>
    obtain ⟨i, hi, rfl, hall⟩ := hrel
    have HA := Lib.hid hall
    clear hall
    by_cases hlt : i < g.vals.length
    · have hxi : g.vals[i]? = some g.vals[i] := List.getElem?_eq_getElem hlt
      obtain ⟨b, o, rfl, -, hb1, hc⟩ := HX1.out i _ hxi
      generalize g.vals[i] = x at hc hxi
      have c0 := hc 0 _ rfl
      simp only [Nat.mul_one, Nat.add_zero] at c0
      have HX := Lib.hid hxi
      clear hc hxi
      cases g4 : wi x 0 2 with
      | true =>
        have G4 := Lib.hid g4
        go_wp2_with (go_at_call 32; refine (HW.out _ _ _ _).mono ?_; rintro e w' ⟨rfl, rfl⟩)
        go_round
        case rel => exact ⟨i + 1, by omega, by go_num, all_take_succ HX.out HA.out G4.out⟩
        case measure => simp [intOf]; omega
      | false =>
        have hfin : grOk g = false := by
          rw [grOk, all_false_of HX.out g4]
          rfl
        have HF := Lib.hid hfin
        clear hfin
        go_wp2_with (go_at_call 32; refine (HW.out _ _ _ _).mono ?_; rintro e w' ⟨rfl, rfl⟩)
        go_ret
        exact ⟨by rw [HF.out]; rfl, hb0⟩
    · obtain rfl : i = g.vals.length := by omega
      have hallv : g.vals.all (fun v => wi v 0 2) = true := by have := HA.out; rwa [List.take_length] at this
      have HV := Lib.hid hallv
      clear hallv HA
      go_wp2_with fail
      go_loopw [25] (fun ii wr => ∃ (i : Nat) (u : World), i ≤ g.edges.length ∧ ii = .int .i64 i ∧ (List.range i).all (edAt g.vals.length g.edges) = true ∧ wr = ext (w.alloc (.cells #[.slice A1 g.vals.length c1, .slice A2 g.edges.length c2] 27)) u) (fun ii _ => g.edges.length - (intOf ii).toNat)
      case atStart => exact ⟨0, _, Nat.zero_le _, rfl, rfl, ext_self _⟩
      case round =>
        obtain ⟨i, u, hi, rfl, hall, rfl⟩ := hrel
        have HA := Lib.hid hall
        clear hall
        by_cases hlt : i < g.edges.length
        · have hxi : g.edges[i]? = some g.edges[i] := List.getElem?_eq_getElem hlt
          obtain ⟨b, o', rfl, -, hb1, hc⟩ := HX2.out i _ hxi
          generalize g.edges[i] = x at hc hxi
          have c0 := hc 0 _ rfl
          have c1' := hc 1 _ rfl
          have c2' := hc 2 _ rfl
          have c3 := hc 3 _ rfl
          simp only [Nat.add_zero] at c0
          have HX := Lib.hid hxi
          have hlen : g.vals.length ≤ 9223372036854775807 := by omega
          clear hc hxi
          have hgr : grOk g = ((List.range g.edges.length).all (edAt g.vals.length g.edges) && wi g.vals.length 1 5 && decide (g.edges.length ≤ 12)) := by
            rw [grOk, HV.out]; rfl
          have HGR := Lib.hid hgr
          clear hgr
          cases g4 : edOk g.vals.length x with
          | false =>
            have hfin : grOk g = false := by
              rw [HGR.out, range_all_false hlt (by rw [edAt, HX.out]; simp [g4])]
              rfl
            have HF := Lib.hid hfin
            clear hfin
            go_wp2_with fail
            refine wp_region_ext_lit (by kernel_rfl) (by kernel_rfl) ?_
            repeat (go_big_quiet_step ((go_at_call 89; exact Calls.ext_of (edgeOk_any x g.vals.length _ hlen))))
            refine wpQuiet_nil ?_
            intro _ hw'
            obtain ⟨u2, hw''⟩ := hw'
            subst hw''
            go_wp2_with fail
            go_ret
            exact ⟨by rw [HF.out]; rfl, below_trans hb0 (below_trans (ext_below _ _) (below_trans ((Below.refl _ _).alloc (Nat.le_refl _) _) (ext_below _ _)))⟩
          | true =>
            have G4 := Lib.hid g4
            have hbx : ∀ o u2, ∃ z, ext ((ext (w.alloc (.cells #[.slice A1 g.vals.length c1, .slice (some ⟨b, o', none⟩) g.edges.length c2] 27)) u).alloc o) u2 = ext (w.alloc (.cells #[.slice A1 g.vals.length c1, .slice (some ⟨b, o', none⟩) g.edges.length c2] 27)) z :=
              fun o u2 => ext_of (below_trans (ext_below _ _) (below_trans ((Below.refl _ _).alloc (Nat.le_refl _) _) (ext_below _ _)))
            by_cases hi0 : i = 0
            · subst hi0
              have hat : edAt g.vals.length g.edges 0 = true := by rw [edAt, HX.out]; simp [G4.out]
              have HAT := Lib.hid hat
              clear hat
              simp only [Nat.zero_mul, Nat.add_zero, Nat.zero_add] at c0 c1' c2' c3
              go_wp2_with fail
              refine wp_region_ext_lit (by kernel_rfl) (by kernel_rfl) ?_
              repeat (go_big_quiet_step ((go_at_call 89; exact Calls.ext_of (edgeOk_any x g.vals.length _ hlen))))
              refine wpQuiet_nil ?_
              intro _ hw'
              obtain ⟨u2, hw''⟩ := hw'
              subst hw''
              go_wp2_with fail
              go_roundw
              case rel =>
                obtain ⟨z, hz⟩ := hbx _ u2
                exact ⟨1, z, by omega, by go_num, range_all_succ HA.out HAT.out, hz⟩
              case measure => simp [intOf]; omega
            · have hi1 : 0 < i := by omega
              have hxj : g.edges[i - 1]? = some g.edges[i - 1] := List.getElem?_eq_getElem (by omega)
              obtain ⟨b9, o9, ho9, -, -, hcj⟩ := HX2.out (i - 1) _ hxj
              obtain ⟨rfl, rfl⟩ : b = b9 ∧ o' = o9 := by injection ho9 with h1; injection h1 with h1 h2; exact ⟨h1, h2⟩
              generalize g.edges[i - 1] = p at hcj hxj
              have hb1' : b < w.heap.size + 1 := by omega
              have p0 := hcj 0 _ rfl
              simp only [Nat.add_zero] at p0
              have HXJ := Lib.hid hxj
              have hi00 : ((i : Int) > 0) := by omega
              clear hcj hxj ho9
              by_cases hlt2 : p.1 < x.1
              · have hat : edAt g.vals.length g.edges i = true := by rw [edAt, HX.out]; simp [G4.out, HXJ.out, hlt2]
                have hge : decide (p.1 ≥ x.1) = false := by simp; omega
                have HAT := Lib.hid hat
                clear hat
                go_wp2_with fail
                have q1 : IntKind.i64.wrap ((i : Int) - 1) = (i : Int) - 1 := IntWalk.i64_in _ (by omega)
                have q2 : 0 ≤ (i : Int) - 1 := by omega
                have q3 : (i : Int) - 1 < (g.edges.length : Int) := by omega
                have q4 : ((i : Int) - 1).toNat = i - 1 := by omega
                refine wp_region_ext_lit (by kernel_rfl) (by kernel_rfl) ?_
                repeat (go_big_quiet_step ((go_at_call 89; exact Calls.ext_of (edgeOk_any x g.vals.length _ hlen))))
                refine wpQuiet_nil ?_
                intro _ hw'
                obtain ⟨u2, hw''⟩ := hw'
                subst hw''
                clear q1 q2 q3 q4
                go_wp2_with fail
                go_roundw
                case rel =>
                  obtain ⟨z, hz⟩ := hbx _ u2
                  exact ⟨i + 1, z, by omega, by go_num, range_all_succ HA.out HAT.out, hz⟩
                case measure => simp [intOf]; omega
              · have hfin : grOk g = false := by
                  rw [HGR.out, range_all_false hlt (by rw [edAt, HX.out]; simp [G4.out, HXJ.out, hi0]; omega)]
                  rfl
                have hge : decide (p.1 ≥ x.1) = true := by simp; omega
                have HF := Lib.hid hfin
                clear hfin
                go_wp2_with fail
                have q1 : IntKind.i64.wrap ((i : Int) - 1) = (i : Int) - 1 := IntWalk.i64_in _ (by omega)
                have q2 : 0 ≤ (i : Int) - 1 := by omega
                have q3 : (i : Int) - 1 < (g.edges.length : Int) := by omega
                have q4 : ((i : Int) - 1).toNat = i - 1 := by omega
                refine wp_region_ext_lit (by kernel_rfl) (by kernel_rfl) ?_
                repeat (go_big_quiet_step ((go_at_call 89; exact Calls.ext_of (edgeOk_any x g.vals.length _ hlen))))
                refine wpQuiet_nil ?_
                intro _ hw'
                obtain ⟨u2, hw''⟩ := hw'
                subst hw''
                clear q1 q2 q3 q4
                go_wp2_with fail
                go_ret
                exact ⟨by rw [HF.out]; rfl, below_trans hb0 (below_trans (ext_below _ _) (below_trans ((Below.refl _ _).alloc (Nat.le_refl _) _) (ext_below _ _)))⟩
        · obtain rfl : i = g.edges.length := by omega
          have hgr : grOk g = (wi g.vals.length 1 5 && decide (g.edges.length ≤ 12)) := by
            rw [grOk, HV.out, HA.out]; rfl
          have HGR := Lib.hid hgr
          clear hgr HA HV
          cases g5 : wi g.vals.length 1 5 with
          | false =>
            rw [g5] at HGR
            go_wp2_with (go_at_call 32; refine (HW.out _ _ _ _).mono ?_; rintro e w' ⟨rfl, rfl⟩)
            go_ret
            exact ⟨by rw [HGR.out]; rfl, below_trans hb0 (ext_below _ _)⟩
          | true =>
            rw [g5] at HGR
            have HG5 := Lib.hid g5
            by_cases g6 : g.edges.length ≤ 12
            · have g6' : decide ((g.edges.length : Int) ≤ 12) = true := by simp; omega
              have hfin : grOk g = true := by rw [HGR.out]; simp [g6]
              have HF := Lib.hid hfin
              clear hfin HGR
              go_wp2_with (go_at_call 32; refine (HW.out _ _ _ _).mono ?_; rintro e w' ⟨rfl, rfl⟩)
              go_ret
              exact ⟨by rw [HF.out]; rfl, below_trans hb0 (ext_below _ _)⟩
            · have g6' : decide ((g.edges.length : Int) ≤ 12) = false := by simp; omega
              have hfin : grOk g = false := by rw [HGR.out]; simp [g6]
              have HF := Lib.hid hfin
              clear hfin HGR
              go_wp2_with (go_at_call 32; refine (HW.out _ _ _ _).mono ?_; rintro e w' ⟨rfl, rfl⟩)
              go_ret
              exact ⟨by rw [HF.out]; rfl, below_trans hb0 (ext_below _ _)⟩
/-- slices.IndexFunc over edges, at EdgeIndex's closure -/
theorem indexFuncEdge (k0 : Value) (v : Value) (xs : List Ed) (p : Ed → Prop) (w : World) (hv : SlE w cEd 4 v xs)
    (hF : ∀ x ∈ xs, ∀ W : World, Below w.heap.size w W → Calls Tryz.prog 117 #[.agg #[.int .i64 x.1, .int .i64 x.2.1, .int .i64 x.2.2.1, .int .i64 x.2.2.2], k0] W fun e W' => ∃ b, e = .returned (.bool b) ∧ (b = true ↔ p x) ∧ Below W.heap.size W W') :
    Calls Tryz.prog 116 #[v, .func (Fn.func 117) #[] #[k0]] w fun e w' => ∃ r : Int, e = .returned (.int .i64 r) ∧ Below w.heap.size w w' ∧
      ((r = -1 ∧ ∀ x ∈ xs, ¬ p x) ∨ ∃ (i : Nat) (x : Ed), r = i ∧ xs[i]? = some x ∧ p x ∧ ∀ y ∈ xs.take i, ¬ p y) := by
  obtain ⟨A, c, rfl, hl, hm, hx⟩ := hv
  unfold maxLen at hm
  have HF := Lib.hid hF
  have HX := Lib.hid hx
  clear hF hx
  go_enter Tryz.func116, Tryz.ntmps116
  go_wp2_with fail
  go_loopw [8] (fun ii wr => ∃ (i : Nat) (u : World), i ≤ xs.length ∧ ii = .int .i64 i ∧ (∀ y ∈ xs.take i, ¬ p y) ∧ wr = ext w u) (fun ii _ => xs.length - (intOf ii).toNat)
  case atStart => exact ⟨0, w, Nat.zero_le _, rfl, by simp, ext_self w⟩
  case round =>
    obtain ⟨i, u, hi, rfl, hno, rfl⟩ := hrel
    have HN := Lib.hid hno
    clear hno
    by_cases hlt : i < xs.length
    · have hxi : xs[i]? = some xs[i] := List.getElem?_eq_getElem hlt
      generalize xs[i] = x at hxi
      obtain ⟨b, o, rfl, -, hb, hc⟩ := HX.out i x hxi
      have c0 := hc 0 _ rfl
      have c1' := hc 1 _ rfl
      have c2' := hc 2 _ rfl
      have c3 := hc 3 _ rfl
      simp only [Nat.add_zero] at c0
      have HXI := Lib.hid hxi
      clear hc hxi
      go_wp2_with fail
      refine (HF.out x (List.mem_of_getElem? HXI.out) _ (ext_below w u)).mono ?_
      rintro e w1 ⟨bb, rfl, hbb, hb1⟩
      have HBB := Lib.hid hbb
      clear hbb
      cases bb with
      | true =>
        go_wp2_with fail
        go_ret
        exact ⟨_, rfl, below_trans (ext_below w u) hb1, .inr ⟨i, x, rfl, HXI.out, HBB.out.1 (by first | rfl | trivial), HN.out⟩⟩
      | false =>
        go_wp2_with fail
        go_roundw
        case rel =>
          obtain ⟨z, hz⟩ := ext_of (below_trans (ext_below w u) hb1)
          refine ⟨i + 1, z, by omega, by go_num, fun y hy => ?_, hz⟩
          rw [take_snoc HXI.out] at hy
          rcases List.mem_append.1 hy with hy | hy
          · exact HN.out y hy
          · have : y = x := by simpa using hy
            subst this
            exact fun h => by have := HBB.out.2 h; cases this
        case measure => simp [intOf]; omega
    · obtain rfl : i = xs.length := by omega
      go_wp2_with fail
      go_ret
      exact ⟨_, rfl, ext_below w u, .inl ⟨rfl, fun x hx => HN.out x (by rw [List.take_length]; exact hx)⟩⟩
set_option maxHeartbeats 1000000 in
theorem implEdgeIndex (v : Value) (g : Gr) (id : Int) (w : World) (hv : GrV 0 w.heap.size w v g) :
    Calls Tryz.prog 108 #[v, .int .i64 id] w fun e w' => e = .returned (.int .i64 (edgeIdx g id)) ∧ Below w.heap.size w w' := by
  obtain ⟨vs, es, rfl, -, hes⟩ := hv
  have hb0 : Below w.heap.size w ((w.alloc (.cells #[vs, es] 27)).alloc (.cells #[.int .i64 id] 3)) := ((Below.refl _ _).alloc (Nat.le_refl _) _).alloc (by simp) _
  have b1 := Blk.new (w.alloc (.cells #[vs, es] 27)) 3 #[.int .i64 id] (w.heap.size + 1) (by simp)
  go_enter Tryz.func108, Tryz.ntmps108
  go_wp2_with fail
  refine (indexFuncEdge _ es g.edges (fun e => e.1 = id) _ (SlE.keep hes hb0) (fun x hx W hW => ?_)).mono ?_
  · have b1' := b1.keep hW
    have y0 : W.cell? ⟨w.heap.size + 1, 0, none⟩ = some _ := b1'.cell 0
    have hlt := b1'.lt
    clear hb0 b1 b1' hW
    obtain ⟨x1, x2, x3, x4⟩ := x
    go_enter Tryz.func117, Tryz.ntmps117
    go_wp2_with fail
    go_ret
    refine ⟨_, rfl, by simp, (Below.refl _ _).alloc (Nat.le_refl _) _⟩
  · rintro e w1 ⟨r, rfl, hb1, hr⟩
    have hfin : edgeIdx g id = r := by
      rcases hr with ⟨rfl, h⟩ | ⟨i, x, rfl, hx, hp, hno⟩
      · exact edgeIdx_none h
      · exact edgeIdx_some hx hp hno
    subst hfin
    clear hr
    go_wp2_with fail
    go_ret
    exact ⟨rfl, below_trans hb0 hb1⟩
end Go.Proofs.YtallglnmeeahiaaGreat
namespace Go.Proofs.YtallglnmeeahiaaGreat
set_option linter.unusedVariables false
set_option linter.unusedSimpArgs false
open Go.ChangeShapes Go.WideShapes Go.ChangeAt Go.RowKit
attribute [local go_sem] ext_cell ext_frozen ext_lt ext_lt1 ext_lt2 ext_lt3 ltn2 ltn3 ltn13 lts1 lts2 lts3
set_option maxHeartbeats 1000000 in
theorem bothOk_any (vg va lv : Value) (g : Gr) (a : Au) (ss : List Int) (w : World) (hg : GrV 0 w.heap.size w vg g) (ha : AuV 0 w.heap.size w va a) (hl : SlE w cI 1 lv ss) :
    Calls Tryz.prog 37 #[vg, va, lv] w fun e w' => e = .returned (.bool (ss.all (fun s => wi s 0 ((g.vals.length : Int) - 1)) && (grOk g && auOk a))) ∧ Below w.heap.size w w' := by
  have hg0 := hg
  have ha0 := ha
  obtain ⟨A1, c1, A2, c2, rfl, hl1, hm1, -, -, -, -⟩ := hg.form
  obtain ⟨A3, n3, c3, A4, n4, c4, rfl⟩ := ha.shape
  obtain ⟨A5, c5, rfl, hl5, hm5, hC5⟩ := hl.form
  have HG := Lib.hid hg0
  have HA := Lib.hid ha0
  have HC5 := Lib.hid hC5
  have HW := Lib.hid within_any
  have hb0 : Below w.heap.size w ((w.alloc (.cells #[.slice A1 g.vals.length c1, .slice A2 g.edges.length c2] 27)).alloc (.cells #[.int .i64 a.start, .slice A3 n3 c3, .slice A4 n4 c4] 31)) := ((Below.refl _ _).alloc (Nat.le_refl _) _).alloc (by simp) _
  clear hg ha hl hg0 ha0 hC5
  go_enter Tryz.func37, Tryz.ntmps37
  go_wp2_with fail
  go_loop [11] (fun ii => ∃ i : Nat, i ≤ ss.length ∧ ii = .int .i64 i ∧ (ss.take i).all (fun s => wi s 0 ((g.vals.length : Int) - 1)) = true) (fun ii => ss.length - (intOf ii).toNat)
  case atStart => exact ⟨0, Nat.zero_le _, rfl, rfl⟩
  case round =>
    obtain ⟨i, hi, rfl, hall⟩ := hrel
    have HALL := Lib.hid hall
    clear hall
    by_cases hlt : i < ss.length
    · have hxi : ss[i]? = some ss[i] := List.getElem?_eq_getElem hlt
      generalize ss[i] = s at hxi
      obtain ⟨b, o, rfl, hb1, c0⟩ := HC5.out.int hxi
      have HX := Lib.hid hxi
      clear hxi
      by_cases g4 : wi s 0 ((g.vals.length : Int) - 1) = true
      · go_wp2_with (go_at_call 32; refine (HW.out _ _ _ _).mono ?_; rintro e w' ⟨rfl, rfl⟩)
        go_round
        case rel => exact ⟨i + 1, by omega, by go_num, all_take_succ HX.out HALL.out g4⟩
        case measure => simp [intOf]; omega
      · simp only [Bool.not_eq_true] at g4
        have hfin : ss.all (fun s => wi s 0 ((g.vals.length : Int) - 1)) = false := all_false_of HX.out g4
        have HF := Lib.hid hfin
        clear hfin
        go_wp2_with (go_at_call 32; refine (HW.out _ _ _ _).mono ?_; rintro e w' ⟨rfl, rfl⟩)
        go_ret
        exact ⟨by rw [HF.out]; rfl, hb0⟩
    · obtain rfl : i = ss.length := by omega
      have hfin : ss.all (fun s => wi s 0 ((g.vals.length : Int) - 1)) = true := by have := HALL.out; rwa [List.take_length] at this
      have HF := Lib.hid hfin
      clear hfin
      go_wp2_with fail
      refine (implValidGraph _ g _ (HG.out.keep hb0)).mono ?_
      rintro e w1 ⟨he, hb1⟩
      obtain ⟨u1, rfl⟩ := ext_of hb1
      have hb2 := below_trans hb0 hb1
      clear hb1
      subst he
      cases hgo : grOk g with
      | false =>
        have HGO := Lib.hid hgo
        clear hgo
        go_wp2_with fail
        go_ret
        exact ⟨by rw [HF.out, HGO.out]; rfl, hb2⟩
      | true =>
        have HGO := Lib.hid hgo
        clear hgo
        go_wp2_with fail
        refine (implValidAutomaton _ a _ (HA.out.keep hb2)).mono ?_
        rintro e w2 ⟨rfl, hb3⟩
        go_wp2_with fail
        go_ret
        exact ⟨by rw [HF.out, HGO.out]; rfl, below_trans hb2 hb3⟩
end Go.Proofs.YtallglnmeeahiaaGreat
namespace Go.Proofs.YtallglnmeeahiaaGreat
set_option linter.unusedVariables false
set_option linter.unusedSimpArgs false
end Go.Proofs.YtallglnmeeahiaaGreat
namespace Go.Proofs.YtallglnmeeahiaaGreat
set_option linter.unusedVariables false
set_option linter.unusedSimpArgs false
open Go.ChangeShapes Go.WideShapes Go.ChangeAt Go.RowKit
attribute [local go_sem] ext_cell ext_frozen ext_lt ext_lt1 ext_lt2 ext_lt3 ltn2 ltn3 ltn13 lts1 lts2 lts3
/-- an arc as four cells -/
def cA (y : Arc) : List Value := [.int .i64 y.1.1, .bool y.1.2, .int .i64 y.2.1, .int .i64 y.2.2]
theorem reads_any (e : Ed) (b : Bool) (w : World) (h0 : 0 ≤ e.2.2.2) (h2 : e.2.2.2 ≤ 2) :
    Calls Tryz.prog 91 #[.agg #[.int .i64 e.1, .int .i64 e.2.1, .int .i64 e.2.2.1, .int .i64 e.2.2.2], .bool b] w fun en w' => en = .returned (.int .i64 (arcLetter b e)) ∧ Below w.heap.size w w' := by
  obtain ⟨a, f, t, l⟩ := e
  simp only at h0 h2 ⊢
  cases b
  all_goals
    go_enter Tryz.func91, Tryz.ntmps91
    go_wp2_with fail
    go_ret
    exact ⟨rfl, (Below.refl _ _).alloc (Nat.le_refl _) _⟩
end Go.Proofs.YtallglnmeeahiaaGreat
namespace Go.Proofs.YtallglnmeeahiaaGreat
set_option linter.unusedVariables false
set_option linter.unusedSimpArgs false
open Go.ChangeShapes Go.WideShapes Go.ChangeAt Go.RowKit
attribute [local go_sem] ext_cell ext_frozen ext_lt ext_lt1 ext_lt2 ext_lt3 ltn2 ltn3 ltn13 lts1 lts2 lts3
theorem SlI.arc {lo hi : Nat} {w : World} {A : Option Addr} {n c : Nat} {xs : List Arc} (h : SlI lo hi w cA 4 (.slice A n c) xs) {i : Nat} {y : Arc} (hx : xs[i]? = some y) :
    ∃ b o, A = some ⟨b, o, none⟩ ∧ lo ≤ b ∧ b < hi ∧ w.cell? ⟨b, o + i * 4, none⟩ = some (.int .i64 y.1.1) ∧ w.cell? ⟨b, o + i * 4 + 1, none⟩ = some (.bool y.1.2) ∧ w.cell? ⟨b, o + i * 4 + 2, none⟩ = some (.int .i64 y.2.1) ∧ w.cell? ⟨b, o + i * 4 + 3, none⟩ = some (.int .i64 y.2.2) := by
  obtain ⟨A', c', hv, _, _, h3⟩ := h
  injection hv with h1 _ _
  subst h1
  obtain ⟨b, o, e, g1, g2, hc⟩ := h3 i y hx
  exact ⟨b, o, e, g1, g2, by simpa using hc 0 _ rfl, hc 1 _ rfl, hc 2 _ rfl, hc 3 _ rfl⟩
end Go.Proofs.YtallglnmeeahiaaGreat
namespace Go.Proofs.YtallglnmeeahiaaGreat
set_option linter.unusedVariables false
set_option linter.unusedSimpArgs false
open Go.ChangeShapes Go.WideShapes Go.ChangeAt Go.RowKit
attribute [local go_sem] ext_cell ext_frozen ext_lt ext_lt1 ext_lt2 ext_lt3 ltn2 ltn3 ltn13 lts1 lts2 lts3
end Go.Proofs.YtallglnmeeahiaaGreat
/-
  DERIVED: THE SHELF's CONTRACTS AT THIS DUMP, IN PLAIN WORDS (tools/lay-plain.mjs out of 'TryzShelf.lean', which tools/lay-shelf.mjs wrote): THE SAME DECLARATIONS UNDER THE SAME NAMES: 'import', 'namespace', 'open', 'def', 'theorem' AND NOTHING ELSE: no command of the shelf's: FOR A HAND-IN. Each laying: the table of numbers ('.._ren') and one theorem, a field a fact of the dump's own or the kernel's comparison; each contract: ONE APPLICATION.
-/
namespace Go.Proofs
open Go.Shelf
end Go.Proofs
namespace Go.Proofs.YtallglnmeeahiaaGreat
set_option linter.unusedVariables false
set_option linter.unusedSimpArgs false
open Go.ChangeShapes Go.WideShapes Go.ChangeAt Go.RowKit
attribute [local go_sem] ext_cell ext_frozen ext_lt ext_lt1 ext_lt2 ext_lt3 ltn2 ltn3 ltn13 lts1 lts2 lts3
end Go.Proofs.YtallglnmeeahiaaGreat
namespace Go.Proofs.YtallglnmeeahiaaGreat
set_option linter.unusedVariables false
set_option linter.unusedSimpArgs false
open Go.ChangeShapes Go.WideShapes Go.ChangeAt Go.RowKit
def QRow (w : World) (lo : Nat) (e : TypeId) (k : Nat) (v : Value) (n : Nat) (xs : List Value) : Prop :=
  xs.length = n * k ∧
  ((v = .slice none 0 0 ∧ n = 0) ∨
   ∃ g o cap cur, v = .slice (some ⟨g, o, none⟩) n cap ∧ lo ≤ g ∧ w.heap[g]? = some (.cells cur e (0, 0)) ∧ n ≤ cap ∧ cap ≤ maxLen ∧ o + cap * k ≤ cur.size ∧ (cur.toList.drop o).take (n * k) = xs)
section
variable {w w' : World} {lo k n : Nat} {e : TypeId} {v : Value} {xs : List Value}
theorem QRow.lt (h : QRow w lo e k v n xs) : ∀ g, v.ownBlock = some g → lo ≤ g ∧ g < w.heap.size := by
  intro g hg
  rcases h.2 with ⟨rfl, _⟩ | ⟨g', o, cap, cur, rfl, hl, hh, _⟩
  · cases hg
  · have : g' = g := by simpa [Value.ownBlock] using hg
    subst this
    refine ⟨hl, ?_⟩
    rcases Nat.lt_or_ge g' w.heap.size with hlt | hge
    · exact hlt
    · rw [Array.getElem?_eq_none hge] at hh; cases hh
theorem QRow.shape (h : QRow w lo e k v n xs) : ∃ A c, v = .slice A n c ∧ n ≤ c ∧ c ≤ maxLen := by
  rcases h.2 with ⟨rfl, rfl⟩ | ⟨g, o, cap, cur, rfl, _, _, h1, h2, _⟩
  · exact ⟨_, _, rfl, Nat.le_refl _, by unfold maxLen; omega⟩
  · exact ⟨_, _, rfl, h1, h2⟩
theorem QRow.block (h : QRow w lo e k v n xs) (hb : ∀ g, v.ownBlock = some g → w'.heap[g]? = w.heap[g]?) : QRow w' lo e k v n xs := by
  obtain ⟨hl, hs⟩ := h
  refine ⟨hl, ?_⟩
  rcases hs with hs | ⟨g, o, cap, cur, rfl, hg, hh, r⟩
  · exact .inl hs
  · exact .inr ⟨g, o, cap, cur, rfl, hg, (hb g rfl).trans hh, r⟩
theorem QRow.below (h : QRow w lo e k v n xs) {B : Nat} (hb : Below B w w') (hB : w.heap.size ≤ B) : QRow w' lo e k v n xs :=
  h.block fun g hg => hb.block g (by have := (h.lt g hg).2; omega)
theorem QRow.only (h : QRow w lo e k v n xs) {l r : Nat} (hb : Only l r w w') (ho : ∀ g, v.ownBlock = some g → g < l ∨ r ≤ g) : QRow w' lo e k v n xs :=
  h.block fun g hg => hb.block g (h.lt g hg).2 (ho g hg)
theorem QRow.alloc (h : QRow w lo e k v n xs) (o : Obj) : QRow (w.alloc o) lo e k v n xs :=
  h.block fun g hg => Below.heap_alloc w o g (h.lt g hg).2
theorem QRow.cell (h : QRow w lo e k v n xs) (hn : 0 < n) : ∃ g o c, v = .slice (some ⟨g, o, none⟩) n c ∧ lo ≤ g ∧ g < w.heap.size ∧ ∀ j u, xs[j]? = some u → w.cell? ⟨g, o + j, none⟩ = some u := by
  have hlt := h.lt
  obtain ⟨hl, hs⟩ := h
  rcases hs with ⟨_, h0⟩ | ⟨g, o, cap, cur, rfl, hg, hh, hnc, hm, hsz, htk⟩
  · omega
  · refine ⟨g, o, cap, rfl, hg, (hlt g rfl).2, fun j u hu => ?_⟩
    rw [cell_of_row w g (o + j) cur e (0, 0) hh]
    have hj : j < n * k := by rw [← hl]; exact (List.getElem?_eq_some_iff.1 hu).1
    rw [← htk, List.getElem?_take, if_pos hj, List.getElem?_drop] at hu
    simpa using hu
/-- v[1:] -/
theorem QRow.tail (h : QRow w lo e k v (n + 1) xs) {A : Option Addr} {c : Nat} (hv : v = .slice A (n + 1) c) : QRow w lo e k (.slice (if c = 1 then A else A.map (·.add k)) n (c - 1)) n (xs.drop k) := by
  obtain ⟨hl, hs⟩ := h
  refine ⟨by rw [List.length_drop, hl, Nat.succ_mul]; omega, ?_⟩
  rcases hs with ⟨_, h0⟩ | ⟨g, o, cap, cur, rfl, hg, hh, hnc, hm, hsz, htk⟩
  · omega
  · injection hv with h1 _ h3
    subst h1 h3
    by_cases hc : cap = 1
    · rw [if_pos hc]
      have hn0 : n = 0 := by omega
      subst hn0
      refine .inr ⟨g, o, _, cur, rfl, hg, hh, by omega, by omega, by subst hc; simp only [Nat.sub_self, Nat.zero_mul]; omega, ?_⟩
      have : xs.drop k = [] := by rw [List.drop_eq_nil_iff, hl]; omega
      rw [this]; simp
    · rw [if_neg hc]
      refine .inr ⟨g, o + k, cap - 1, cur, ?_, hg, hh, by omega, by omega, ?_, ?_⟩
      · simp only [Option.map_some, Addr.add]
        split
        · rename_i h0; subst h0; rfl
        · rfl
      · have : cap = (cap - 1) + 1 := by omega
        rw [this, Nat.succ_mul] at hsz
        omega
      · rw [← htk, List.drop_take, List.drop_drop, Nat.succ_mul]
        congr 1
        omega
end
section
variable {P : Program} (w : World)
end
end Go.Proofs.YtallglnmeeahiaaGreat
namespace Go.Proofs.YtallglnmeeahiaaGreat
set_option linter.unusedVariables false
set_option linter.unusedSimpArgs false
open Go.ChangeShapes Go.WideShapes Go.ChangeAt Go.RowKit
attribute [local go_sem] ext_cell ext_frozen ext_lt ext_lt1 ext_lt2 ext_lt3 ltn2 ltn3 ltn13 lts1 lts2 lts3
end Go.Proofs.YtallglnmeeahiaaGreat
namespace Go.Proofs.YtallglnmeeahiaaGreat
set_option linter.unusedVariables false
set_option linter.unusedSimpArgs false
open Go.ChangeShapes Go.WideShapes Go.ChangeAt Go.RowKit
attribute [local go_sem] ext_cell ext_frozen ext_lt ext_lt1 ext_lt2 ext_lt3 ltn2 ltn3 ltn13 lts1 lts2 lts3
end Go.Proofs.YtallglnmeeahiaaGreat
namespace Go.Proofs.YtallglnmeeahiaaGreat
set_option linter.unusedVariables false
set_option linter.unusedSimpArgs false
open Go.ChangeShapes Go.WideShapes Go.ChangeAt Go.RowKit
attribute [local go_sem] ext_cell ext_frozen ext_lt ext_lt1 ext_lt2 ext_lt3 ltn2 ltn3 ltn13 lts1 lts2 lts3
/-- a literal of ints, laid in a block of its own -/
theorem lit_sl (w : World) (e : TypeId) (xs : List Int) (hm : xs.length ≤ maxLen) : SlE (w.alloc (.cells (xs.map (Value.int .i64)).toArray e)) cI 1 (.slice (some ⟨w.heap.size, 0, none⟩) xs.length xs.length) xs := by
  have h1 : xs.flatMap cI = (xs.map (Value.int .i64)) := by
    induction xs with
    | nil => rfl
    | cons x xs ih => rw [List.flatMap_cons, List.map_cons, ih (by simp at hm; omega)]; rfl
  have h := Own.of_row (xs := xs) (E := cI) (World.ownsRow_lit (base := 0) (e := e) (size := 1) w (xs.map (Value.int .i64)).toArray xs.length (Nat.zero_le _) hm (by simp)) rfl (by simp [h1])
  exact (h.sl cI_len).all (Nat.le_refl _)
end Go.Proofs.YtallglnmeeahiaaGreat
namespace Go.Proofs.YtallglnmeeahiaaGreat
set_option linter.unusedVariables false
set_option linter.unusedSimpArgs false
open Go.ChangeShapes Go.WideShapes Go.ChangeAt Go.RowKit
attribute [local go_sem] ext_cell ext_frozen ext_lt ext_lt1 ext_lt2 ext_lt3 ltn2 ltn3 ltn13 lts1 lts2 lts3
end Go.Proofs.YtallglnmeeahiaaGreat
namespace Go.Proofs.YtallglnmeeahiaaGreat
set_option linter.unusedVariables false
set_option linter.unusedSimpArgs false
open Go.ChangeShapes Go.WideShapes Go.ChangeAt Go.RowKit
attribute [local go_sem] ext_cell ext_frozen ext_lt ext_lt1 ext_lt2 ext_lt3 ltn2 ltn3 ltn13 lts1 lts2 lts3
end Go.Proofs.YtallglnmeeahiaaGreat
namespace Go.Proofs.YtallglnmeeahiaaGreat
set_option linter.unusedVariables false
set_option linter.unusedSimpArgs false
open Go.ChangeShapes Go.WideShapes Go.ChangeAt Go.RowKit
attribute [local go_sem] ext_cell ext_frozen ext_lt ext_lt1 ext_lt2 ext_lt3 ltn2 ltn3 ltn13 lts1 lts2 lts3
end Go.Proofs.YtallglnmeeahiaaGreat
namespace Go.Proofs.YtallglnmeeahiaaGreat
set_option linter.unusedVariables false
set_option linter.unusedSimpArgs false
open Go.ChangeShapes Go.WideShapes Go.ChangeAt Go.RowKit
end Go.Proofs.YtallglnmeeahiaaGreat
namespace Go.Proofs.YtallglnmeeahiaaGreat
set_option linter.unusedVariables false
set_option linter.unusedSimpArgs false
open Go.ChangeShapes Go.WideShapes Go.ChangeAt Go.RowKit
attribute [local go_sem] ext_cell ext_frozen ext_lt ext_lt1 ext_lt2 ext_lt3 ltn2 ltn3 ltn13 lts1 lts2 lts3
end Go.Proofs.YtallglnmeeahiaaGreat
namespace Go.Proofs.YtallglnmeeahiaaGreat
set_option linter.unusedVariables false
set_option linter.unusedSimpArgs false
open Go.ChangeShapes Go.WideShapes Go.ChangeAt Go.RowKit
attribute [local go_sem] ext_cell ext_frozen ext_lt ext_lt1 ext_lt2 ext_lt3 ltn2 ltn3 ltn13 lts1 lts2 lts3
end Go.Proofs.YtallglnmeeahiaaGreat
namespace Go.Proofs.YtallglnmeeahiaaGreat
set_option linter.unusedVariables false
set_option linter.unusedSimpArgs false
open Go.ChangeShapes Go.WideShapes Go.ChangeAt Go.RowKit
attribute [local go_sem] ext_cell ext_frozen ext_lt ext_lt1 ext_lt2 ext_lt3 ltn2 ltn3 ltn13 lts1 lts2 lts3
end Go.Proofs.YtallglnmeeahiaaGreat
namespace Go.Proofs.YtallglnmeeahiaaGreat
set_option linter.unusedVariables false
set_option linter.unusedSimpArgs false
open Go.ChangeShapes Go.WideShapes Go.ChangeAt Go.RowKit
attribute [local go_sem] ext_cell ext_frozen ext_lt ext_lt1 ext_lt2 ext_lt3 ltn2 ltn3 ltn13 lts1 lts2 lts3
theorem elPair : ElemOk Tryz.prog 79 83 (.agg #[.int .i64 0, .int .i64 0]) 2 16 := ⟨Tryz.underlying79, by kernel_rfl, rfl, by omega⟩
end Go.Proofs.YtallglnmeeahiaaGreat
namespace Go.Proofs.YtallglnmeeahiaaGreat
set_option linter.unusedVariables false
set_option linter.unusedSimpArgs false
open Go.ChangeShapes Go.WideShapes Go.ChangeAt Go.RowKit
attribute [local go_sem] ext_cell ext_frozen ext_lt ext_lt1 ext_lt2 ext_lt3 ltn2 ltn3 ltn13 lts1 lts2 lts3
end Go.Proofs.YtallglnmeeahiaaGreat
namespace Go.Proofs.YtallglnmeeahiaaGreat
set_option linter.unusedVariables false
set_option linter.unusedSimpArgs false
open Go.ChangeShapes Go.WideShapes Go.ChangeAt Go.RowKit
attribute [local go_sem] ext_cell ext_frozen ext_lt ext_lt1 ext_lt2 ext_lt3 ltn2 ltn3 ltn13 lts1 lts2 lts3
theorem goodB0 (g : Gr) (a : Au) (x : Int) : goodB g a x 0 = (grOk g && (auOk a && wi x 0 ((g.vals.length : Int) - 1))) := by
  unfold goodB
  cases h : auOk a with
  | false => simp
  | true =>
    have h1 := (auOk_iff.1 h).1.1
    have h2 : wi 0 0 ((a.accept.length : Int) - 1) = true := wi_iff.2 (by omega)
    rw [h2]
    simp
set_option maxHeartbeats 4000000 in
set_option maxRecDepth 100000 in
theorem specShortestLength (vg va : Value) (g : Gr) (a : Au) (x y : Int) (w : World) (hgv : GrV 0 w.heap.size w vg g) (hav : AuV 0 w.heap.size w va a) :
    Calls Tryz.prog 33 #[vg, va, .int .i64 x, .int .i64 y] w fun e w' => e = .returned (.int .i64 (shortLen g a x y)) ∧ Below w.heap.size w w' := by
  have hgv0 := hgv
  have hav0 := hav
  obtain ⟨A1, n1, c1, A2, n2, c2, rfl⟩ := hgv.shape
  obtain ⟨ac, nx, rfl, hac, hnx⟩ := hav
  obtain ⟨A3, c3, rfl, -, -, -⟩ := SlE.form hac
  obtain ⟨A4, n4, c4, rfl⟩ := hnx.shape
  have hb0 : Below w.heap.size w ((w.alloc (.cells #[.slice A1 n1 c1, .slice A2 n2 c2] 27)).alloc (.cells #[.int .i64 a.start, .slice A3 a.accept.length c3, .slice A4 n4 c4] 31)) := ((Below.refl _ _).alloc (Nat.le_refl _) _).alloc (by simp) _
  have HGV := Lib.hid hgv0
  have HAV := Lib.hid hav0
  clear hgv hac hnx hgv0 hav0
  go_enter Tryz.func33, Tryz.ntmps33
  go_wp2_with fail
  obtain ⟨W0, hW0⟩ : ∃ W0, W0 = ((w.alloc (.cells #[.slice A1 n1 c1, .slice A2 n2 c2] 27)).alloc (.cells #[.int .i64 a.start, .slice A3 a.accept.length c3, .slice A4 n4 c4] 31)) := ⟨_, rfl⟩
  rw [← hW0] at hb0 ⊢
  have x0 : W0.cell? ⟨w.heap.size, 0, none⟩ = some (.slice A1 n1 c1) := by rw [hW0]; simp
  have x1 : W0.cell? ⟨w.heap.size, 1, none⟩ = some (.slice A2 n2 c2) := by rw [hW0]; simp
  have y0 : W0.cell? ⟨w.heap.size + 1, 0, none⟩ = some (.int .i64 a.start) := by rw [hW0]; simp
  have y1 : W0.cell? ⟨w.heap.size + 1, 1, none⟩ = some (.slice A3 a.accept.length c3) := by rw [hW0]; simp
  have y2 : W0.cell? ⟨w.heap.size + 1, 2, none⟩ = some (.slice A4 n4 c4) := by rw [hW0]; simp
  have hs0 : w.heap.size + 1 + 1 = W0.heap.size := by rw [hW0]; simp
  try rw [hs0]
  have l0 : w.heap.size + 1 < W0.heap.size := by omega
  have l00 : w.heap.size < W0.heap.size := by omega
  clear hW0 hs0
  have hgx := l14Good_any _ _ g a x 0 W0 (HGV.out.keep hb0) (HAV.out.keep hb0)
  have HGX := Lib.hid hgx
  clear hgx
  cases hk : goodB g a x 0 with
  | false =>
    rw [hk] at HGX
    have hfin : shortLen g a x y = -1 := by
      unfold shortLen
      rw [if_neg]
      intro h
      rw [goodB0] at hk
      simp only [Bool.and_eq_true] at h
      simp [h] at hk
    have HF := Lib.hid hfin
    clear hk hfin
    refine HGX.out.mono ?_
    rintro e w1 ⟨rfl, hb1⟩
    go_wp2_with fail
    go_ret
    exact ⟨by rw [HF.out]; rfl, below_trans hb0 hb1⟩
  | true =>
    rw [hk] at HGX
    have HK := Lib.hid hk
    clear hk
    refine HGX.out.mono ?_
    rintro e w1 ⟨rfl, hb1⟩
    have hb2 := below_trans hb0 hb1
    have x0 := kcell hb1 x0
    have x1 := kcell hb1 x1
    have y0 := kcell hb1 y0
    have y1 := kcell hb1 y1
    have y2 := kcell hb1 y2
    have l0 := Nat.lt_of_lt_of_le l0 hb1.size
    have l00 := Nat.lt_of_lt_of_le l00 hb1.size
    have hgy := l14Good_any _ _ g a y 0 w1 (HGV.out.keep hb2) (HAV.out.keep hb2)
    have HGY := Lib.hid hgy
    clear hgy
    cases hk : goodB g a y 0 with
    | false =>
      rw [hk] at HGY
      have hfin : shortLen g a x y = -1 := by
        unfold shortLen
        rw [if_neg]
        intro h
        rw [goodB0] at hk
        simp only [Bool.and_eq_true] at h
        simp [h] at hk
      have HF := Lib.hid hfin
      clear hk hfin
      go_wp2_with fail
      refine HGY.out.mono ?_
      rintro e w3 ⟨rfl, hb3⟩
      go_wp2_with fail
      go_ret
      exact ⟨by rw [HF.out]; rfl, below_trans hb2 hb3⟩
    | true =>
      rw [hk] at HGY
      rw [goodB0] at hk
      have hk2 := HK.out
      rw [goodB0] at hk2
      simp only [Bool.and_eq_true, wi_iff] at hk hk2
      obtain ⟨hgo, hao, hy0, hy1⟩ := hk
      obtain ⟨-, -, hx0, hx1⟩ := hk2
      have hdl := distTo_len (g := g) (a := a) (y := y) (by simp [wi_iff, hy0, hy1, hgo, hao])
      obtain ⟨x, rfl⟩ := Int.eq_ofNat_of_zero_le hx0
      obtain ⟨y, rfl⟩ := Int.eq_ofNat_of_zero_le hy0
      have hst0 := (auOk_iff.1 hao).2.1
      have hm12 := (auOk_iff.1 hao).1.2
      have hn5 := (grOk_iff.1 hgo).n5
      obtain ⟨xn, hxn⟩ : ∃ xn, xn = x * a.accept.length := ⟨_, rfl⟩
      have hxn2 : xn + a.accept.length ≤ g.vals.length * a.accept.length := by rw [hxn]; have := Nat.mul_le_mul_right a.accept.length (show x + 1 ≤ g.vals.length by omega); rw [Nat.succ_mul] at this; exact this
      have hN60 : g.vals.length * a.accept.length ≤ 60 := by have := Nat.mul_le_mul hn5 hm12; omega
      rw [← hdl] at hxn2 hN60
      obtain ⟨ix, hix⟩ : ∃ ix : Nat, (ix : Int) = (xn : Int) + a.start := ⟨(xn + a.start.toNat), by omega⟩
      have hixl : ix < (distTo g a (y : Int)).length := by omega
      have hfin : shortLen g a (x : Int) (y : Int) = (distTo g a (y : Int)).getD ix 0 := by
        unfold shortLen
        rw [if_pos (by simp [wi_iff, hx0, hx1, hy0, hy1, hgo, hao]), Int.toNat_natCast, ← hxn]
        congr 1
        omega
      have hget := getD_of hixl
      have q1' : (x : Int) * (a.accept.length : Int) = (xn : Int) := by rw [hxn, Int.natCast_mul]
      have q1 : IntKind.i64.wrap ((x : Int) * (a.accept.length : Int)) = (xn : Int) := by rw [q1']; exact IntWalk.i64_in _ (by omega)
      have q2 : IntKind.i64.wrap ((xn : Int) + a.start) = (ix : Int) := by rw [← hix]; exact IntWalk.i64_in _ (by omega)
      have q2' : (xn : Int) + a.start = (ix : Int) := hix.symm
      have q5 : IntKind.i64.wrap (xn : Int) = (xn : Int) := IntWalk.i64_in _ (by omega)
      have q6 : IntKind.i64.wrap (ix : Int) = (ix : Int) := IntWalk.i64_in _ (by omega)
      have hixi : (ix : Int) < ((distTo g a (y : Int)).length : Int) := by omega
      have hix0 : (0 : Int) ≤ (ix : Int) := by omega
      have hyl : y < g.vals.length := by omega
      have HF := Lib.hid hfin
      have HGET := Lib.hid hget
      have Q1 := Lib.hid q1
      have Q1' := Lib.hid q1'
      have Q2 := Lib.hid q2
      have Q2' := Lib.hid q2'
      have Q5 := Lib.hid q5
      have Q6 := Lib.hid q6
      have HGO := Lib.hid hgo
      have HAO := Lib.hid hao
      clear hget hfin hxn hix hgo hao hdl hx0 hx1 hy0 hy1 hst0 q1 q1' q2 q2' q5 q6
      go_wp2_with fail
      refine HGY.out.mono ?_
      rintro e w3 ⟨rfl, hb3⟩
      have hb4 := below_trans hb2 hb3
      have x0 := kcell hb3 x0
      have x1 := kcell hb3 x1
      have y0 := kcell hb3 y0
      have y1 := kcell hb3 y1
      have y2 := kcell hb3 y2
      clear hb0 hb1 hb2 hb3 HGY HGX HK
      go_wp2_with fail
      have q1 := Q1.out
      have q1' := Q1'.out
      have q2 := Q2.out
      have q2' := Q2'.out
      have q5 := Q5.out
      have q6 := Q6.out
      refine F_start 14 (fun w' => w'.cell? ⟨w.heap.size, 0, none⟩ = some (.slice A1 n1 c1) ∧ w'.cell? ⟨w.heap.size, 1, none⟩ = some (.slice A2 n2 c2) ∧ w'.cell? ⟨w.heap.size + 1, 0, none⟩ = some (.int .i64 a.start) ∧ w'.cell? ⟨w.heap.size + 1, 1, none⟩ = some (.slice A3 a.accept.length c3) ∧ w'.cell? ⟨w.heap.size + 1, 2, none⟩ = some (.slice A4 n4 c4)) (by kernel_rfl) (by exact ⟨x0, x1, y0, y1, y2⟩) (fun hS inv => ?_)
      refine F_take (i := 0) (v := ?_) rfl (by kernel_rfl) (by kernel_rfl) (by kernel_rfl) (fun _ _ _ h => h) inv (Or.inl ⟨by rfl, ?_⟩) (by assumption) (fun invn => ?_)
      rotate_left
      · (intro w hSw; (try dsimp only at hSw); go_simp; try with_reducible rfl)
      try simp only [List.getElem_toArray, List.getElem_cons_zero, List.getElem_cons_succ, Act.put, List.setIfInBounds_toArray, List.set_cons_zero, List.set_cons_succ]
      clear inv
      have inv := invn
      clear invn
      refine F_take (i := 1) (v := ?_) rfl (by kernel_rfl) (by kernel_rfl) (by kernel_rfl) (fun _ _ _ h => h) inv (Or.inl ⟨by rfl, ?_⟩) (by assumption) (fun invn => ?_)
      rotate_left
      · (intro w hSw; (try dsimp only at hSw); go_simp; try with_reducible rfl)
      try simp only [List.getElem_toArray, List.getElem_cons_zero, List.getElem_cons_succ, Act.put, List.setIfInBounds_toArray, List.set_cons_zero, List.set_cons_succ]
      clear inv
      have inv := invn
      clear invn
      refine F_take (i := 2) (v := ?_) rfl (by kernel_rfl) (by kernel_rfl) (by kernel_rfl) (fun _ _ _ h => h) inv (Or.inl ⟨by rfl, ?_⟩) (by assumption) (fun invn => ?_)
      rotate_left
      · (intro w hSw; (try dsimp only at hSw); go_simp; try with_reducible rfl)
      try simp only [List.getElem_toArray, List.getElem_cons_zero, List.getElem_cons_succ, Act.put, List.setIfInBounds_toArray, List.set_cons_zero, List.set_cons_succ]
      clear inv
      have inv := invn
      clear invn
      refine F_take (i := 4) (v := ?_) rfl (by kernel_rfl) (by kernel_rfl) (by kernel_rfl) (fun _ _ _ h => h) inv (Or.inl ⟨by rfl, ?_⟩) (by assumption) (fun invn => ?_)
      rotate_left
      · (intro w hSw; (try dsimp only at hSw); go_simp; try with_reducible rfl)
      try simp only [List.getElem_toArray, List.getElem_cons_zero, List.getElem_cons_succ, Act.put, List.setIfInBounds_toArray, List.set_cons_zero, List.set_cons_succ]
      clear inv
      have inv := invn
      clear invn
      refine F_take (i := 5) (v := ?_) rfl (by kernel_rfl) (by kernel_rfl) (by kernel_rfl) (fun _ _ _ h => h) inv (Or.inl ⟨by rfl, ?_⟩) (by assumption) (fun invn => ?_)
      rotate_left
      · (intro w hSw; (try dsimp only at hSw); go_simp; try with_reducible rfl)
      try simp only [List.getElem_toArray, List.getElem_cons_zero, List.getElem_cons_succ, Act.put, List.setIfInBounds_toArray, List.set_cons_zero, List.set_cons_succ]
      clear inv
      have inv := invn
      clear invn
      refine F_take (i := 6) (v := ?_) rfl (by kernel_rfl) (by kernel_rfl) (by kernel_rfl) (fun _ _ _ h => h) inv (Or.inl ⟨by rfl, ?_⟩) (by assumption) (fun invn => ?_)
      rotate_left
      · (intro w hSw; (try dsimp only at hSw); go_simp; try with_reducible rfl)
      try simp only [List.getElem_toArray, List.getElem_cons_zero, List.getElem_cons_succ, Act.put, List.setIfInBounds_toArray, List.set_cons_zero, List.set_cons_succ]
      clear inv
      have inv := invn
      clear invn
      refine F_take (i := 7) (v := ?_) rfl (by kernel_rfl) (by kernel_rfl) (by kernel_rfl) (fun _ _ _ h => h) inv (Or.inl ⟨by rfl, ?_⟩) (by assumption) (fun invn => ?_)
      rotate_left
      · (intro w hSw; (try dsimp only at hSw); go_simp; try with_reducible rfl)
      try simp only [List.getElem_toArray, List.getElem_cons_zero, List.getElem_cons_succ, Act.put, List.setIfInBounds_toArray, List.set_cons_zero, List.set_cons_succ]
      clear inv
      have inv := invn
      clear invn
      refine F_take (i := 8) (v := ?_) rfl (by kernel_rfl) (by kernel_rfl) (by kernel_rfl) (fun _ _ _ h => h) inv (Or.inl ⟨by rfl, ?_⟩) (by assumption) (fun invn => ?_)
      rotate_left
      · (intro w hSw; (try dsimp only at hSw); go_simp; try with_reducible rfl)
      try simp only [List.getElem_toArray, List.getElem_cons_zero, List.getElem_cons_succ, Act.put, List.setIfInBounds_toArray, List.set_cons_zero, List.set_cons_succ]
      clear inv
      have inv := invn
      clear invn
      refine F_take (i := 9) (v := ?_) rfl (by kernel_rfl) (by kernel_rfl) (by kernel_rfl) (fun _ _ _ h => h) inv (Or.inl ⟨by rfl, ?_⟩) (by assumption) (fun invn => ?_)
      rotate_left
      · (intro w hSw; (try dsimp only at hSw); go_simp; try with_reducible rfl)
      try simp only [List.getElem_toArray, List.getElem_cons_zero, List.getElem_cons_succ, Act.put, List.setIfInBounds_toArray, List.set_cons_zero, List.set_cons_succ]
      clear inv
      have inv := invn
      clear invn
      refine F_take (i := 10) (v := ?_) rfl (by kernel_rfl) (by kernel_rfl) (by kernel_rfl) (fun _ _ _ h => h) inv (Or.inl ⟨by rfl, ?_⟩) (by assumption) (fun invn => ?_)
      rotate_left
      · (intro w hSw; (try dsimp only at hSw); go_simp; try with_reducible rfl)
      try simp only [List.getElem_toArray, List.getElem_cons_zero, List.getElem_cons_succ, Act.put, List.setIfInBounds_toArray, List.set_cons_zero, List.set_cons_succ]
      clear inv
      have inv := invn
      clear invn
      refine F_take (i := 11) (v := ?_) rfl (by kernel_rfl) (by kernel_rfl) (by kernel_rfl) (fun _ _ _ h => h) inv (Or.inl ⟨by rfl, ?_⟩) (by assumption) (fun invn => ?_)
      rotate_left
      · (intro w hSw; (try dsimp only at hSw); go_simp; try with_reducible rfl)
      try simp only [List.getElem_toArray, List.getElem_cons_zero, List.getElem_cons_succ, Act.put, List.setIfInBounds_toArray, List.set_cons_zero, List.set_cons_succ]
      clear inv
      have inv := invn
      clear invn
      refine F_one (i := 3) (by kernel_rfl) rfl rfl (by omega) inv (fun K hK => ?_)
      try simp only [List.getElem_toArray, List.getElem_cons_zero, List.getElem_cons_succ]
      go_simp
      refine (l14Back_any _ _ g a y _ (GrV.keep (w' := w3.drew) HGV.out hb4.drew) (AuV.keep (w' := w3.drew) HAV.out hb4.drew) HGO.out HAO.out hyl).mono ?_
      rintro e wD ⟨vD, rfl, hoD, hbD⟩
      obtain ⟨A5, c5, rfl, hl5, hm5, hC5⟩ := hoD.form cI_len
      obtain ⟨b5, o5, rfl, hb5, d5⟩ := hC5.int HGET.out
      refine hK.out _ _ (kB5 hbD hS) (fun hSn invn => ?_)
      try simp only [List.getElem_toArray, List.getElem_cons_zero, List.getElem_cons_succ, Act.put, List.setIfInBounds_toArray, List.set_cons_zero, List.set_cons_succ]
      clear hK K inv hS
      have inv := invn
      have hS := hSn
      clear invn hSn
      refine F_take (i := 12) (v := ?_) rfl (by kernel_rfl) (by kernel_rfl) (by kernel_rfl) (fun _ _ _ h => h) inv (Or.inl ⟨by rfl, ?_⟩) (by assumption) (fun invn => ?_)
      rotate_left
      · (intro w hSw; (try dsimp only at hSw); go_simp; try with_reducible rfl)
      try simp only [List.getElem_toArray, List.getElem_cons_zero, List.getElem_cons_succ, Act.put, List.setIfInBounds_toArray, List.set_cons_zero, List.set_cons_succ]
      clear inv
      have inv := invn
      clear invn
      refine F_one (i := 13) (by kernel_rfl) rfl rfl (by omega) inv (fun K hK => ?_)
      try simp only [List.getElem_toArray, List.getElem_cons_zero, List.getElem_cons_succ]
      go_simp
      refine hK.out _ _ (hS) (fun hSn invn => ?_)
      try simp only [List.getElem_toArray, List.getElem_cons_zero, List.getElem_cons_succ, Act.put, List.setIfInBounds_toArray, List.set_cons_zero, List.set_cons_succ]
      clear hK K inv hS
      have inv := invn
      have hS := hSn
      clear invn hSn
      refine F_last (i := 14) (by kernel_rfl) rfl rfl (by omega) (by kernel_rfl) (fun K hK => ?_)
      go_simp
      refine hK _ _ ?_
      clear hK K inv hS
      clear q1 q1' q2 q2' q5 q6
      go_wp2_with fail
      go_ret
      exact ⟨by rw [HF.out]; simp [List.getElem?_eq_getElem hixl], below_trans hb4.drew hbD⟩
end Go.Proofs.YtallglnmeeahiaaGreat
namespace Go.Proofs.YtallglnmeeahiaaGreat
set_option linter.unusedVariables false
set_option linter.unusedSimpArgs false
open Go.ChangeShapes Go.WideShapes Go.ChangeAt Go.RowKit
attribute [local go_sem] ext_cell ext_frozen ext_lt ext_lt1 ext_lt2 ext_lt3 ltn2 ltn3 ltn13 lts1 lts2 lts3
theorem goodB00 (g : Gr) (a : Au) : goodB g a 0 0 = (grOk g && auOk a) := by
  rw [goodB0]
  cases hg : grOk g with
  | false => simp
  | true =>
    have h1 := (grOk_iff.1 hg).n1
    have h2 : wi 0 0 ((g.vals.length : Int) - 1) = true := wi_iff.2 (by omega)
    rw [h2]
    cases auOk a <;> simp
end Go.Proofs.YtallglnmeeahiaaGreat
namespace Go.Proofs.YtallglnmeeahiaaGreat
set_option linter.unusedVariables false
set_option linter.unusedSimpArgs false
open Go.ChangeShapes Go.WideShapes Go.ChangeAt Go.RowKit
attribute [local go_sem] ext_cell ext_frozen ext_lt ext_lt1 ext_lt2 ext_lt3 ltn2 ltn3 ltn13 lts1 lts2 lts3
def allRow (g : Gr) (a : Au) (x k : Nat) : List Pr := ((ansL g a (x : Int)).take k).map fun y => ((x : Int), y)
def allTo (g : Gr) (a : Au) (i : Nat) : List Pr := (List.range i).flatMap fun (x : Nat) => allRow g a x (ansL g a (x : Int)).length
def allL (g : Gr) (a : Au) : List Pr := if (grOk g && auOk a) = true then allTo g a g.vals.length else []
theorem allRow_zero (g : Gr) (a : Au) (x : Nat) : allRow g a x 0 = [] := by simp [allRow]
theorem allRow_snoc {g : Gr} {a : Au} {x k : Nat} {y : Int} (h : (ansL g a (x : Int))[k]? = some y) : allRow g a x (k + 1) = allRow g a x k ++ [((x : Int), y)] := by
  rw [allRow, take_snoc h, List.map_append]; rfl
theorem allRow_len (g : Gr) (a : Au) (x k : Nat) : (allRow g a x k).length ≤ 30 := by
  have := ansL_len g a (x : Int)
  simp only [allRow, List.length_map, List.length_take]; omega
theorem allTo_snoc (g : Gr) (a : Au) (i : Nat) : allTo g a (i + 1) = allTo g a i ++ allRow g a i (ansL g a (i : Int)).length := by
  simp [allTo, List.range_succ]
theorem allTo_len (g : Gr) (a : Au) (i : Nat) : (allTo g a i).length ≤ 30 * i := by
  induction i with
  | zero => simp [allTo]
  | succ i ih =>
    have := allRow_len g a i (ansL g a (i : Int)).length
    rw [allTo_snoc, List.length_append]; omega
set_option maxHeartbeats 4000000 in
set_option maxRecDepth 100000 in
theorem specAllAnswers (vg va : Value) (g : Gr) (a : Au) (w : World) (hgv : GrV 0 w.heap.size w vg g) (hav : AuV 0 w.heap.size w va a) :
    Calls Tryz.prog 59 #[vg, va] w fun e w' => ∃ v', e = .returned v' ∧ Own w.heap.size w'.heap.size w' 83 cPr 2 v' (allL g a) ∧ Below w.heap.size w w' := by
  obtain ⟨R, hR⟩ : ∃ R, R = allL g a := ⟨_, rfl⟩
  rw [← hR]
  have HRR := Lib.hid hR
  clear hR
  have hgv0 := hgv
  have hav0 := hav
  obtain ⟨A1, c1, A2, c2, rfl, hl1, hm1, hl2, hm2, hC1, -⟩ := hgv.form
  obtain ⟨ac, nx, rfl, hac, hnx⟩ := hav
  obtain ⟨A3, c3, rfl, hl3, hm3, -⟩ := SlE.form hac
  obtain ⟨A4, n4, c4, rfl⟩ := hnx.shape
  have hb0 : Below w.heap.size w ((w.alloc (.cells #[.slice A1 g.vals.length c1, .slice A2 g.edges.length c2] 27)).alloc (.cells #[.int .i64 a.start, .slice A3 a.accept.length c3, .slice A4 n4 c4] 31)) := ((Below.refl _ _).alloc (Nat.le_refl _) _).alloc (by simp) _
  have HGV := Lib.hid hgv0
  have HAV := Lib.hid hav0
  have HC1 := Lib.hid hC1
  clear hgv hac hnx hgv0 hav0 hC1
  go_enter Tryz.func59, Tryz.ntmps59
  go_wp2_with fail
  obtain ⟨W0, hW0⟩ : ∃ W0, W0 = ((w.alloc (.cells #[.slice A1 g.vals.length c1, .slice A2 g.edges.length c2] 27)).alloc (.cells #[.int .i64 a.start, .slice A3 a.accept.length c3, .slice A4 n4 c4] 31)).alloc (.cells #[] 83) := ⟨_, rfl⟩
  have hb0 : Below w.heap.size w W0 := by rw [hW0]; exact hb0.alloc hb0.size _
  rw [← hW0]
  have bx : Blk W0 w.heap.size 27 #[.slice A1 g.vals.length c1, .slice A2 g.edges.length c2] := by rw [hW0]; exact ((Blk.new w _ _ w.heap.size rfl).alloc _).alloc _
  have by_ : Blk W0 (w.heap.size + 1) 31 #[.int .i64 a.start, .slice A3 a.accept.length c3, .slice A4 n4 c4] := by rw [hW0]; exact (Blk.new (w.alloc _) _ _ (w.heap.size + 1) (by simp)).alloc _
  have hrow0 : W0.ownsRow (w.heap.size + 1 + 1) 83 2 (.slice (some ⟨w.heap.size + 1 + 1, 0, none⟩) 0 0) ([] : List Pr).length (([] : List Pr).flatMap cPr) := by
    rw [hW0]
    have h := World.ownsRow_lit (base := w.heap.size + 1 + 1) (e := 83) (size := 2) ((w.alloc (.cells #[.slice A1 g.vals.length c1, .slice A2 g.edges.length c2] 27)).alloc (.cells #[.int .i64 a.start, .slice A3 a.accept.length c3, .slice A4 n4 c4] 31)) #[] 0 (by simp) (by decide) rfl
    simpa using h
  have x0 : W0.cell? ⟨w.heap.size, 0, none⟩ = some (.slice A1 g.vals.length c1) := bx.cell 0
  have x1 : W0.cell? ⟨w.heap.size, 1, none⟩ = some (.slice A2 g.edges.length c2) := bx.cell 1
  have y0 : W0.cell? ⟨w.heap.size + 1, 0, none⟩ = some (.int .i64 a.start) := by_.cell 0
  have y1 : W0.cell? ⟨w.heap.size + 1, 1, none⟩ = some (.slice A3 a.accept.length c3) := by_.cell 1
  have y2 : W0.cell? ⟨w.heap.size + 1, 2, none⟩ = some (.slice A4 n4 c4) := by_.cell 2
  have l0 := by_.lt
  have l00 := bx.lt
  have HROW0 := Lib.hid hrow0
  have hsW : W0.heap.size = w.heap.size + 1 + 1 + 1 := by rw [hW0]; simp
  have hsW' : w.heap.size + 1 + 1 < W0.heap.size := by omega
  have HSW := Lib.hid hsW
  clear hW0 bx by_ hrow0 hsW
  have HG := Lib.hid (fun (W : World) (hW : Below w.heap.size w W) => show Calls Tryz.prog 42 #[_, _, .int .i64 0, .int .i64 0] W fun e w' => e = .returned (.bool (grOk g && auOk a)) ∧ Below W.heap.size W w' by rw [← goodB00]; exact l14Good_any _ _ g a 0 0 W (HGV.out.keep hW) (HAV.out.keep hW))
  have hR := HRR.out
  rw [allL] at hR
  clear HRR
  cases hk : (grOk g && auOk a) with
  | false =>
    rw [hk] at HG hR
    have hr0 : R = [] := hR
    subst hr0
    have HB0 := Lib.hid hb0
    clear hk hR hb0
    go_loopw [5, 6] (fun oo ii wr => oo = .slice (some ⟨w.heap.size + 1 + 1, 0, none⟩) 0 0 ∧ ii = .int .i64 0 ∧ wr = W0) (fun _ _ _ => 0)
    case atStart => exact ⟨rfl, rfl, rfl⟩
    case round =>
      obtain ⟨rfl, rfl, rfl⟩ := hrel
      have hO := Lib.hid ((Own.of_row (xs := ([] : List Pr)) HROW0.out rfl rfl).mono (show w.heap.size ≤ w.heap.size + 1 + 1 by omega) (Nat.le_refl _))
      by_cases h0 : (0 : Int) < (g.vals.length : Int)
      · go_wp2_with fail
        refine (HG.out _ HB0.out).mono ?_
        rintro e w2 ⟨rfl, hb2⟩
        have HO2 := Lib.hid ((hO.out.below hb2 (Nat.le_refl _)).mono (Nat.le_refl _) hb2.size)
        go_wp2_with fail
        go_ret
        exact ⟨_, rfl, HO2.out, below_trans HB0.out hb2⟩
      · go_wp2_with fail
        go_ret
        exact ⟨_, rfl, hO.out, HB0.out⟩
  | true =>
    rw [hk] at HG hR
    simp only [Bool.and_eq_true] at hk
    obtain ⟨hgo, hao⟩ := hk
    have hn5 := (grOk_iff.1 hgo).n5
    have hr1 : R = allTo g a g.vals.length := hR
    have HR := Lib.hid hr1
    have HLF := Lib.hid (fun (x : Nat) (W : World) (hW : Below w.heap.size w W) (hx : x < g.vals.length) => l15From_any _ _ g a x W (HGV.out.keep hW) (HAV.out.keep hW) hgo hao hx)
    clear hgo hao hR hr1
    obtain ⟨gO, hgO⟩ : ∃ gO, gO = w.heap.size + 1 + 1 := ⟨_, rfl⟩
    rw [← hgO] at HROW0 hsW' ⊢
    have hgw : w.heap.size + 1 < gO := by omega
    have hgs := hsW'
    have hb5 := hb0
    obtain ⟨W5, rfl⟩ : ∃ W5 : World, W5 = W0 := ⟨_, rfl⟩
    clear hgO HSW hsW' hb0
    go_loopw [5, 6] (fun oo ii wr => ∃ i : Nat, i ≤ g.vals.length ∧ ii = .int .i64 (i : Int) ∧ wr.ownsRow gO 83 2 oo (allTo g a i).length ((allTo g a i).flatMap cPr) ∧ Below gO W5 wr) (fun _ ii _ => g.vals.length - (intOf ii).toNat)
    case atStart => exact ⟨0, Nat.zero_le _, rfl, HROW0.out, Below.refl _ _⟩
    case round =>
      clear HROW0
      obtain ⟨i, hi, rfl, hrow, hbel⟩ := hrel
      have x0 := (hbel.cell (p := ⟨w.heap.size, 0, none⟩) (by simp only; omega)).trans x0
      have x1 := (hbel.cell (p := ⟨w.heap.size, 1, none⟩) (by simp only; omega)).trans x1
      have y0 := (hbel.cell (p := ⟨w.heap.size + 1, 0, none⟩) (by simp only; omega)).trans y0
      have y1 := (hbel.cell (p := ⟨w.heap.size + 1, 1, none⟩) (by simp only; omega)).trans y1
      have y2 := (hbel.cell (p := ⟨w.heap.size + 1, 2, none⟩) (by simp only; omega)).trans y2
      have hsz := hbel.size
      have l0 := Nat.lt_of_lt_of_le l0 hsz
      have l00 := Nat.lt_of_lt_of_le l00 hsz
      have hbw := hb5.trans (hbel.mono (show w.heap.size ≤ gO by omega))
      have HBW := Lib.hid hbw
      have HROW := Lib.hid hrow
      have HBEL := Lib.hid hbel
      have hfl := allTo_len g a i
      clear hrow hbw hbel
      obtain ⟨wo, rfl⟩ : ∃ wo : World, wo = wr := ⟨_, rfl⟩
      by_cases hlt : i < g.vals.length
      · have hii : (i : Int) < (g.vals.length : Int) := by omega
        go_wp2_with fail
        refine (HG.out _ HBW.out).mono ?_
        rintro e w2 ⟨rfl, hb2⟩
        have hbw2 := below_trans HBW.out hb2
        have x0 := kcell hb2 x0
        have x1 := kcell hb2 x1
        have y0 := kcell hb2 y0
        have y1 := kcell hb2 y1
        have y2 := kcell hb2 y2
        have HROW := Lib.hid (ownsRow_below HROW.out hb2 (Nat.le_refl _))
        have hs2 := hb2.size
        have l0 := Nat.lt_of_lt_of_le l0 hs2
        have l00 := Nat.lt_of_lt_of_le l00 hs2
        have HBEL := Lib.hid (HBEL.out.trans (hb2.mono (show gO ≤ wo.heap.size by omega)))
        have hsz := HBEL.out.size
        clear hb2
        obtain ⟨wp, rfl⟩ : ∃ wp : World, wp = wo := ⟨_, rfl⟩
        obtain ⟨wo, rfl⟩ : ∃ wo : World, wo = w2 := ⟨_, rfl⟩
        go_wp2_with fail
        refine (HLF.out i _ hbw2 hlt).mono ?_
        rintro e w6 ⟨v6, rfl, ho6, hb6⟩
        have hs6 := hb6.size
        have x0 := kcell hb6 x0
        have x1 := kcell hb6 x1
        have y0 := kcell hb6 y0
        have y1 := kcell hb6 y1
        have y2 := kcell hb6 y2
        have l0 := Nat.lt_of_lt_of_le l0 hs6
        have l00 := Nat.lt_of_lt_of_le l00 hs6
        have HB6 := Lib.hid hb6
        have HR6 := Lib.hid (ownsRow_below HROW.out hb6 (Nat.le_refl _))
        have hob6 := HROW.out.lt
        have HC6 := Lib.hid (ho6.sl cI_len)
        obtain ⟨A6, c6, rfl, hl6, hm6, -⟩ := ho6.form cI_len
        have HT1 := Lib.hid (allTo_snoc g a i)
        have hln := ansL_len g a (i : Int)
        have HRW := Lib.hid (fun (k : Nat) (y : Int) (h : (ansL g a (i : Int))[k]? = some y) => allRow_snoc (g := g) (a := a) (x := i) h)
        have HR0 := Lib.hid (allRow_zero g a i)
        have hrl := allRow_len g a i
        have HRL := Lib.hid hrl
        clear ho6 hrl
        generalize ansL g a (i : Int) = l at *
        generalize allTo g a i = L at *
        obtain ⟨N, hN⟩ : ∃ N, N = l.length := ⟨_, rfl⟩
        rw [← hN] at hl6 hln HT1 ⊢
        have HN := Lib.hid hN
        clear hN
        go_wp2_with fail
        go_loopw [5, 8] (fun oo jj wr => ∃ j : Nat, j ≤ N ∧ jj = .int .i64 (j : Int) ∧ wr.ownsRow gO 83 2 oo (L ++ allRow g a i j).length ((L ++ allRow g a i j).flatMap cPr) ∧ Only gO wo.heap.size w6 wr ∧ (∀ b, oo.ownBlock = some b → (gO ≤ b ∧ b < wo.heap.size) ∨ w6.heap.size ≤ b)) (fun _ jj _ => N - (intOf jj).toNat)
        case atStart => exact ⟨0, Nat.zero_le _, rfl, by rw [HR0.out, List.append_nil]; exact HR6.out, Only.refl _ _ _, fun b hb => .inl (hob6 b hb)⟩
        case round =>
          clear HR6 hob6
          obtain ⟨j, hj, rfl, hrow, hon, hob⟩ := hrel
          have x0 := ocell hon x0 l00 (.inl (by omega))
          have x1 := ocell hon x1 l00 (.inl (by omega))
          have y0 := ocell hon y0 l0 (.inl (by omega))
          have y1 := ocell hon y1 l0 (.inl (by omega))
          have y2 := ocell hon y2 l0 (.inl (by omega))
          have hsz2 := hon.size
          have HROW2 := Lib.hid hrow
          have HON := Lib.hid hon
          have HOB := Lib.hid hob
          have hrl := HRL.out j
          clear hrow hon hob
          by_cases hlj : j < N
          · have hjj : (j : Int) < (N : Int) := by omega
            have hyi := getD_of (D := l) (k := j) (by have := HN.out; omega)
            obtain ⟨b6, o6, rfl, hb60, hb6x, d6⟩ := HC6.out.intI hyi
            have d6 := ocell HON.out d6 hb6x (.inr (by omega))
            have hb6w : b6 < wr.heap.size := by omega
            have HSN := Lib.hid (show (L ++ allRow g a i j) ++ [((i : Int), l.getD j 0)] = L ++ allRow g a i (j + 1) by rw [HRW.out j _ hyi, List.append_assoc])
            have hll : (L ++ allRow g a i j).length ≤ 1000 := by rw [List.length_append]; omega
            clear hyi
            generalize l.getD j 0 = yy at *
            generalize L ++ allRow g a i j = LL at *
            go_wp2_with (at_builtin; (refine wpList_append1 cPr elPair rfl _ _ rfl gO _ LL ((i : Int), yy) _ 1 _ (by rfl) HROW2.out (by rfl) rfl rfl rfl (cPr_one _) (by omega) (by omega) (by omega) ?_); intro v' w4 hrow' hb4 hat4 hgr4)
            go_roundw
            case rel =>
              refine ⟨j + 1, by omega, by go_num, by rw [← HSN.out]; exact hrow', (HON.out.alloc _).grown hgr4 (fun b hb => HOB.out b hb), fun b hb => ?_⟩
              rcases hat4 with h1 | ⟨g1, h1, h2⟩
              · exact HOB.out b (by rw [← h1]; exact hb)
              · rw [h1] at hb
                injection hb with hb
                exact .inr (by omega)
            case measure => simp [intOf]; omega
          · obtain rfl : j = N := by omega
            rw [← HT1.out] at HROW2
            have HBX := Lib.hid (HBEL.out.trans ((HB6.out.mono (show gO ≤ wo.heap.size by omega)).trans (HON.out.below (Nat.le_refl _) (by omega))))
            go_wp2_with fail
            go_roundw
            case rel => exact ⟨i + 1, by omega, by go_num, HROW2.out, HBX.out⟩
            case measure => simp [intOf]; omega
      ·
        obtain rfl : i = g.vals.length := by omega
        have hown := Own.of_row (xs := allTo g a g.vals.length) HROW.out rfl rfl
        rw [← HR.out] at hown
        obtain ⟨A9, n9, c9, rfl⟩ := hown.shape
        have HO := Lib.hid (hown.mono (show w.heap.size ≤ gO by omega) (Nat.le_refl _))
        clear hown
        go_wp2_with fail
        go_ret
        exact ⟨_, rfl, HO.out, HBW.out⟩
end Go.Proofs.YtallglnmeeahiaaGreat
namespace Go.Proofs.YtallglnmeeahiaaGreat
set_option linter.unusedVariables false
set_option linter.unusedSimpArgs false
open Go.ChangeShapes Go.WideShapes Go.ChangeAt Go.RowKit
attribute [local go_sem] ext_cell ext_frozen ext_lt ext_lt1 ext_lt2 ext_lt3 ltn2 ltn3 ltn13 lts1 lts2 lts3
/-- the cursor's bytes do not lie in blocks whose cells are no bytes -/
theorem Cur.off {w w' : World} {b l r : Nat} (hc : Cur w b) (ho : Only l r w w') (hr : r ≤ b) (hn : ∀ q, l ≤ q → q < r → ∀ o (x : Int), w.cell? ⟨q, o, none⟩ ≠ some (.int .u8 x)) : Cur w' b := by
  obtain ⟨A, bs, c, i, h, h1, ⟨A', c', hv, hl, hm, hx⟩, h3⟩ := hc
  have hbl := h1.lt
  refine ⟨A, bs, c, i, h, h1.only ho (.inr hr), ⟨A', c', hv, hl, hm, fun k u hk => ?_⟩, h3⟩
  obtain ⟨q, o, hA, h0, hqb, hcc⟩ := hx k u hk
  have hqr : q < l ∨ r ≤ q := by
    rcases Nat.lt_or_ge q l with h5 | h5
    · exact .inl h5
    · rcases Nat.lt_or_ge q r with h6 | h6
      · exact absurd (hcc 0 _ rfl) (hn q h5 h6 _ _)
      · exact .inr h6
  exact ⟨q, o, hA, h0, hqb, fun j t ht => (ho.cell (p := ⟨q, o + k * 1 + j, none⟩) (by simp only; omega) (by simp only; omega)).trans (hcc j t ht)⟩
/-- a graph in the block gq, an automaton in aq, the cursor in b; the results' blocks r and r + 1 -/
structure GaR (b r gq aq : Nat) (w0 w : World) (gs es : Value) (g : Gr) (ac nx : Value) (a : Au) : Prop where
  res1 : Blk w r 27 #[.slice none 0 0, .slice none 0 0]
  res2 : Blk w (r + 1) 31 #[.int .i64 0, .slice none 0 0, .slice none 0 0]
  gbk : Blk w gq 27 #[gs, es]
  abk : Blk w aq 31 #[.int .i64 a.start, ac, nx]
  gv : GrV (b + 1) gq w (.agg #[gs, es]) g
  av : AuV (b + 1) gq w (.agg #[.int .i64 a.start, ac, nx]) a
  cur : Cur w b
  bel : Below w0.heap.size w0 w
  at0 : w0.heap.size = r
  e11 : g.edges.length ≤ 11
  ord : r + 1 < b ∧ b < gq ∧ gq < aq
section
variable {b r gq aq : Nat} {w0 w w' : World} {gs es : Value} {g : Gr} {ac nx : Value} {a : Au}
theorem GaR.step (h : GaR b r gq aq w0 w gs es g ac nx a) (ho : Only b (b + 1) w w') (hc : Cur w' b) : GaR b r gq aq w0 w' gs es g ac nx a := by
  have hd := h.ord
  have hq := h.abk.lt
  have h0 := h.at0
  exact ⟨h.res1.only ho (.inl (by omega)), h.res2.only ho (.inl (by omega)), h.gbk.only ho (.inr (by omega)), h.abk.only ho (.inr (by omega)), h.gv.only ho (by omega) (.inr (by omega)), h.av.only ho (by omega) (.inr (by omega)), hc, h.bel.trans (ho.below (B := w0.heap.size) (by omega) h.bel.size), h.at0, h.e11, hd⟩
theorem GaR.keep (h : GaR b r gq aq w0 w gs es g ac nx a) (hb : Below w.heap.size w w') : GaR b r gq aq w0 w' gs es g ac nx a := by
  have hd := h.ord
  have hq := h.abk.lt
  exact ⟨h.res1.keep hb, h.res2.keep hb, h.gbk.keep hb, h.abk.keep hb, h.gv.below hb (by omega), h.av.below hb (by omega), h.cur.keep hb, below_trans h.bel hb, h.at0, h.e11, hd⟩
theorem GaR.drew (h : GaR b r gq aq w0 w gs es g ac nx a) : GaR b r gq aq w0 w.drew gs es g ac nx a := h.keep (Below.refl w.heap.size w).drew
theorem GaR.grv (h : GaR b r gq aq w0 w gs es g ac nx a) : GrV 0 w.heap.size w (.agg #[gs, es]) g := h.gv.mono (Nat.zero_le _) (by have := h.ord; have := h.abk.lt; omega)
theorem GaR.auv (h : GaR b r gq aq w0 w gs es g ac nx a) : AuV 0 w.heap.size w (.agg #[.int .i64 a.start, ac, nx]) a := h.av.mono (Nat.zero_le _) (by have := h.ord; have := h.abk.lt; omega)
theorem GaR.grb (h : GaR b r gq aq w0 w gs es g ac nx a) : GrV (b + 1) w.heap.size w (.agg #[gs, es]) g := h.gv.mono (Nat.le_refl _) (by have := h.ord; have := h.abk.lt; omega)
theorem GaR.fin (h : GaR b r gq aq w0 w gs es g ac nx a) (ho : Only r (r + 2) w w') :
    w0.heap.size ≤ b ∧ GrV (b + 1) w'.heap.size w' (.agg #[gs, es]) g ∧ g.edges.length ≤ 11 ∧ AuV (b + 1) w'.heap.size w' (.agg #[.int .i64 a.start, ac, nx]) a ∧ Cur w' b ∧ Below w0.heap.size w0 w' := by
  have hd := h.ord
  have h0 := h.at0
  have hq := h.abk.lt
  have hs := ho.size
  refine ⟨by omega, (h.gv.only ho (by omega) (.inr (by omega))).mono (Nat.le_refl _) (by omega), h.e11, (h.av.only ho (by omega) (.inr (by omega))).mono (Nat.le_refl _) (by omega), h.cur.off ho (by omega) (fun q h1 h2 o x => ?_), h.bel.trans (ho.below (B := w0.heap.size) (by omega) h.bel.size)⟩
  obtain rfl | rfl : q = r ∨ q = r + 1 := by omega
  · rw [h.res1.cell]
    rcases o with _ | _ | o <;> simp
  · rw [h.res2.cell]
    rcases o with _ | _ | _ | o <;> simp
theorem GaR.blks (h : GaR b r gq aq w0 w gs es g ac nx a) (ho : Only r (r + 2) w w') : Blk w' gq 27 #[gs, es] ∧ Blk w' aq 31 #[.int .i64 a.start, ac, nx] := by
  have hd := h.ord
  exact ⟨h.gbk.only ho (.inr (by omega)), h.abk.only ho (.inr (by omega))⟩
/-- behind the first store -/
theorem GaR.put (h : GaR b r gq aq w0 w gs es g ac nx a) (v1 v2 : Value) :
    Only r (r + 2) w ((w.setCell ⟨r, 0, none⟩ v1).setCell ⟨r, 1, none⟩ v2) ∧ Blk ((w.setCell ⟨r, 0, none⟩ v1).setCell ⟨r, 1, none⟩ v2) (r + 1) 31 #[.int .i64 0, .slice none 0 0, .slice none 0 0] := by
  have ho := Only.put2 w r v1 v2
  exact ⟨((Only.refl r (r + 2) w).setCell (p := ⟨r, 0, none⟩) (.inl (by simp only; omega)) _).setCell (p := ⟨r, 1, none⟩) (.inl (by simp only; omega)) _, h.res2.only ho (.inr (by omega))⟩
end
theorem grT_len {lo hi : Nat} {w : World} {A1 A2 : Option Addr} {n1 c1 n2 c2 : Nat} {g : Gr} (h : GrV lo hi w (.agg #[.slice A1 n1 c1, .slice A2 n2 c2]) g) : n1 ≤ maxLen := by
  obtain ⟨vs, es, hv, ⟨A, c, rfl, hl, hm, -⟩, -⟩ := h
  simp at hv
  obtain ⟨⟨-, h2, -⟩, -⟩ := hv
  omega
theorem prAtT {lo hi : Nat} {w : World} {A : Option Addr} {n c : Nat} {xs : List Pr} (h : SlI lo hi w cPr 2 (.slice A n c) xs) {i : Nat} {x : Pr} (hx : xs[i]? = some x) :
    ∃ b o, A = some ⟨b, o, none⟩ ∧ lo ≤ b ∧ b < hi ∧ w.cell? ⟨b, o + i * 2, none⟩ = some (.int .i64 x.1) ∧ w.cell? ⟨b, o + i * 2 + 1, none⟩ = some (.int .i64 x.2) := by
  obtain ⟨A', c', hv, _, _, h3⟩ := h
  injection hv with h1 _ _
  subst h1
  obtain ⟨b, o, e, g1, g2, hc⟩ := h3 i x hx
  exact ⟨b, o, e, g1, g2, by simpa using hc 0 _ rfl, hc 1 _ rfl⟩
def DuoOut (w : World) (e : Ending) (w' : World) : Prop := ∃ b vg va g a x y, e = .returned (.tuple #[.pointer (some ⟨b, 0, none⟩), vg, va, .int .i64 x, .int .i64 y]) ∧ (w.heap.size ≤ b ∧ GrV (b + 1) w'.heap.size w' vg g ∧ g.edges.length ≤ 11 ∧ AuV (b + 1) w'.heap.size w' va a ∧ Cur w' b ∧ Below w.heap.size w w')
set_option maxHeartbeats 8000000 in
theorem l17Two_any (v : Value) (bs : List Int) (w : World) (hv : SlI 0 w.heap.size w cU 1 v bs) :
    Calls Tryz.prog 30 #[v] w (DuoOut w) := by
  have HV := Lib.hid hv
  have hb0 := ((Below.refl w.heap.size w).alloc (Nat.le_refl _) (.cells #[.slice none 0 0, .slice none 0 0] 27)).alloc (by simp) (.cells #[.int .i64 0, .slice none 0 0, .slice none 0 0] 31)
  have hb1 := (Blk.new w 27 #[.slice none 0 0, .slice none 0 0] _ rfl).alloc (.cells #[.int .i64 0, .slice none 0 0, .slice none 0 0] 31)
  have hb2 := Blk.new (w.alloc (.cells #[.slice none 0 0, .slice none 0 0] 27)) 31 #[.int .i64 0, .slice none 0 0, .slice none 0 0] (w.heap.size + 1) (by simp)
  have hs0 : ((w.alloc (.cells #[.slice none 0 0, .slice none 0 0] 27)).alloc (.cells #[.int .i64 0, .slice none 0 0, .slice none 0 0] 31)).heap.size = w.heap.size + 2 := by simp
  obtain ⟨A, n, c, rfl⟩ := hv.shape
  clear hv
  go_enter Tryz.func30, Tryz.ntmps30
  go_wp2_with fail
  refine (l1New_any _ bs _ ((HV.out.below hb0 (Nat.le_refl _)).mono (Nat.le_refl _) hb0.size)).mono ?_
  rintro e w1 ⟨b, rfl, hbl, hc1, hbw⟩
  have hr1 := hb1.keep hbw
  have hr2 := hb2.keep hbw
  have hb3 := below_trans hb0 hbw
  rw [hs0] at hbl
  clear hbw hb1 hb2 hb0 hs0 HV
  go_wp2_with fail
  refine (l14Pair_any b _ hc1).mono ?_
  rintro e w2 ⟨vg, va, g, a, rfl, hgv, he11, hav, hc2, ho2⟩
  have hlb := hc1.lt
  obtain ⟨A1, n1, c1, A2, n2, c2, rfl⟩ := hgv.shape
  obtain ⟨A3, n3, c3, A4, n4, c4, rfl⟩ := hav.shape
  have hn1 := grT_len hgv
  have hs2 := ho2.size
  have hal := ((Below.refl w2.heap.size w2).alloc (Nat.le_refl _) (.cells #[.slice A1 n1 c1, .slice A2 n2 c2] 27)).alloc (by simp) (.cells #[.int .i64 a.start, .slice A3 n3 c3, .slice A4 n4 c4] 31)
  have bg := (Blk.new w2 27 #[.slice A1 n1 c1, .slice A2 n2 c2] _ rfl).alloc (.cells #[.int .i64 a.start, .slice A3 n3 c3, .slice A4 n4 c4] 31)
  have ba := Blk.new (w2.alloc (.cells #[.slice A1 n1 c1, .slice A2 n2 c2] 27)) 31 #[.int .i64 a.start, .slice A3 n3 c3, .slice A4 n4 c4] (w2.heap.size + 1) (by simp)
  obtain ⟨gq, hgq⟩ : ∃ gq, gq = w2.heap.size := ⟨_, rfl⟩
  have HP := Lib.hid (show GaR b w.heap.size gq (gq + 1) w ((w2.alloc (.cells #[.slice A1 n1 c1, .slice A2 n2 c2] 27)).alloc (.cells #[.int .i64 a.start, .slice A3 n3 c3, .slice A4 n4 c4] 31)) _ _ g _ _ a from
    ⟨(hr1.only ho2 (.inl (by omega))).keep hal, (hr2.only ho2 (.inl (by omega))).keep hal, hgq ▸ bg, hgq ▸ ba, (hgv.below hal (Nat.le_refl _)).mono (by omega) (by omega), (hav.below hal (Nat.le_refl _)).mono (by omega) (by omega), hc2.keep hal, below_trans (hb3.trans (ho2.below (B := w.heap.size) (by omega) hb3.size)) hal, rfl, he11, by omega⟩)
  clear hal bg ba hgv hav hc2 ho2 hr1 hr2 hb3 hc1 hs2 he11
  go_upto_region 3 with fail
  rw [← hgq]
  generalize ((w2.alloc (.cells #[.slice A1 n1 c1, .slice A2 n2 c2] 27)).alloc (.cells #[.int .i64 a.start, .slice A3 n3 c3, .slice A4 n4 c4] 31)) = W at *
  clear hgq hlb
  have x0 : W.cell? ⟨gq, 0, none⟩ = some (.slice A1 n1 c1) := HP.out.gbk.cell 0
  have x1 : W.cell? ⟨gq, 1, none⟩ = some (.slice A2 n2 c2) := HP.out.gbk.cell 1
  have y0 : W.cell? ⟨gq + 1, 0, none⟩ = some (.int .i64 a.start) := HP.out.abk.cell 0
  have y1 : W.cell? ⟨gq + 1, 1, none⟩ = some (.slice A3 n3 c3) := HP.out.abk.cell 1
  have y2 : W.cell? ⟨gq + 1, 2, none⟩ = some (.slice A4 n4 c4) := HP.out.abk.cell 2
  go_wp2_with fail
  refine (l4Node_any b _ _ _ _ _ _ _ HP.out.cur hn1).mono ?_
  rintro e w4 ⟨x, rfl, hc4, ho4⟩
  have HP4 := Lib.hid (HP.out.step ho4 hc4)
  clear ho4 hc4 HP x0 x1 y0 y1 y2
  have x0 : w4.cell? ⟨gq, 0, none⟩ = some (.slice A1 n1 c1) := HP4.out.gbk.cell 0
  have x1 : w4.cell? ⟨gq, 1, none⟩ = some (.slice A2 n2 c2) := HP4.out.gbk.cell 1
  have y0 : w4.cell? ⟨gq + 1, 0, none⟩ = some (.int .i64 a.start) := HP4.out.abk.cell 0
  have y1 : w4.cell? ⟨gq + 1, 1, none⟩ = some (.slice A3 n3 c3) := HP4.out.abk.cell 1
  have y2 : w4.cell? ⟨gq + 1, 2, none⟩ = some (.slice A4 n4 c4) := HP4.out.abk.cell 2
  go_wp2_with fail
  refine (l4Node_any b _ _ _ _ _ _ _ HP4.out.cur hn1).mono ?_
  rintro e w5 ⟨y, rfl, hc5, ho5⟩
  have HP5 := Lib.hid (HP4.out.step ho5 hc5)
  clear ho5 hc5 HP4 x0 x1 y0 y1 y2
  have x0 : w5.cell? ⟨gq, 0, none⟩ = some (.slice A1 n1 c1) := HP5.out.gbk.cell 0
  have x1 : w5.cell? ⟨gq, 1, none⟩ = some (.slice A2 n2 c2) := HP5.out.gbk.cell 1
  have y0 : w5.cell? ⟨gq + 1, 0, none⟩ = some (.int .i64 a.start) := HP5.out.abk.cell 0
  have y1 : w5.cell? ⟨gq + 1, 1, none⟩ = some (.slice A3 n3 c3) := HP5.out.abk.cell 1
  have y2 : w5.cell? ⟨gq + 1, 2, none⟩ = some (.slice A4 n4 c4) := HP5.out.abk.cell 2
  go_wp2_with fail
  refine (specAllAnswers _ _ g a _ HP5.out.grv HP5.out.auv).mono ?_
  rintro e w6 ⟨vl, rfl, hol, hb6⟩
  have HP6 := Lib.hid (HP5.out.keep hb6)
  have hblt : b < w5.heap.size := by have := HP5.out.ord; have := HP5.out.abk.lt; omega
  have haq : gq + 1 < w5.heap.size := HP5.out.abk.lt
  obtain ⟨A6, c6, rfl, hl6, hm6, -⟩ := hol.form cPr_len
  have hsl := hol.sl cPr_len
  obtain ⟨N, hN⟩ : ∃ N, N = (allL g a).length := ⟨_, rfl⟩
  rw [← hN] at hl6 hsl ⊢
  have HL := Lib.hid hsl
  have HN := Lib.hid hN
  clear hol hsl hb6 HP5 hN x0 x1 y0 y1 y2
  by_cases h0 : N = 0
  · subst h0
    have x0 : w6.cell? ⟨gq, 0, none⟩ = some (.slice A1 n1 c1) := HP6.out.gbk.cell 0
    have x1 : w6.cell? ⟨gq, 1, none⟩ = some (.slice A2 n2 c2) := HP6.out.gbk.cell 1
    have y0 : w6.cell? ⟨gq + 1, 0, none⟩ = some (.int .i64 a.start) := HP6.out.abk.cell 0
    have y1 : w6.cell? ⟨gq + 1, 1, none⟩ = some (.slice A3 n3 c3) := HP6.out.abk.cell 1
    have y2 : w6.cell? ⟨gq + 1, 2, none⟩ = some (.slice A4 n4 c4) := HP6.out.abk.cell 2
    have z0 : w6.cell? ⟨w.heap.size, 0, none⟩ = some (.slice none 0 0) := HP6.out.res1.cell 0
    have z1 : w6.cell? ⟨w.heap.size, 1, none⟩ = some (.slice none 0 0) := HP6.out.res1.cell 1
    have z2 : w6.cell? ⟨w.heap.size + 1, 0, none⟩ = some (.int .i64 0) := HP6.out.res2.cell 0
    have z3 : w6.cell? ⟨w.heap.size + 1, 1, none⟩ = some (.slice none 0 0) := HP6.out.res2.cell 1
    have z4 : w6.cell? ⟨w.heap.size + 1, 2, none⟩ = some (.slice none 0 0) := HP6.out.res2.cell 2
    have v0 := HP6.out.res1.frozen 0
    have v1 := HP6.out.res1.frozen 1
    have v2 := HP6.out.res2.frozen 0
    have v3 := HP6.out.res2.frozen 1
    have v4 := HP6.out.res2.frozen 2
    have hlr := HP6.out.res1.lt
    have hls := HP6.out.res2.lt
    have hord := HP6.out.ord
    have q1 : ¬ gq + 1 = w.heap.size := by omega
    have q2 : ¬ w.heap.size = gq + 1 := by omega
    have q3 : ¬ gq + 1 = w.heap.size + 1 := by omega
    have q4 : ¬ w.heap.size + 1 = gq + 1 := by omega
    have q5 : ¬ gq = w.heap.size := by omega
    have q6 : ¬ w.heap.size = gq := by omega
    have q7 : ¬ gq = w.heap.size + 1 := by omega
    have q8 : ¬ w.heap.size + 1 = gq := by omega
    clear hord
    go_wp2_with fail
    go_region
    have HD := HP6.out.fin (putGA_only w6 w.heap.size (.slice A1 n1 c1) (.slice A2 n2 c2) (.int .i64 a.start) (.slice A3 n3 c3) (.slice A4 n4 c4))
    go_wp2_with fail
    refine bodyPost_ret (v := .tuple #[.pointer (some ⟨b, 0, none⟩), .agg #[.slice A1 n1 c1, .slice A2 n2 c2], .agg #[.int .i64 a.start, .slice A3 n3 c3, .slice A4 n4 c4], .int .i64 x, .int .i64 y]) (by simp [results, Tryz.results30, go_sem, z0, z1, z2, z3, z4, v0, v1, v2, v3, v4]) rfl ⟨_, _, _, _, _, _, _, rfl, HD⟩
  · have hN1 : (0 : Int) < (N : Int) := by omega
    go_wp2_with fail
    refine (l1Once_any b 3 _ HP6.out.cur).mono ?_
    rintro e w7 ⟨t, rfl, hc7, ho7⟩
    have HP7 := Lib.hid (HP6.out.step ho7 hc7)
    have HL7 := Lib.hid (HL.out.only ho7 (Nat.le_refl _) (.inr hblt))
    have hs7 := ho7.size
    clear HP6 hc7 ho7 HL
    cases t
    · go_wp2_with fail
      refine (l1Below_any b _ _ HP7.out.cur).mono ?_
      rintro e w8 ⟨i, rfl, ⟨hi0, -, hi1⟩, hc8, ho8⟩
      have HP8 := Lib.hid (HP7.out.step ho8 hc8)
      have HL8 := Lib.hid (HL7.out.only ho8 hs7 (.inr hblt))
      have hs8 := ho8.size
      have hi1 := hi1 hN1
      obtain ⟨i, rfl⟩ := Int.eq_ofNat_of_zero_le hi0
      clear HP7 HL7 hc8 ho8 hi0
      have hlt : i < (allL g a).length := by rw [← HN.out]; omega
      obtain ⟨E, hE⟩ : ∃ E, E = (allL g a)[i] := ⟨_, rfl⟩
      have hei : (allL g a)[i]? = some E := by rw [hE]; exact List.getElem?_eq_getElem hlt
      clear hE hlt
      obtain ⟨b6, o6, rfl, hlo6, hb6, e0, e1⟩ := prAtT HL8.out hei
      obtain ⟨e1v, e2v⟩ := E
      simp only at e0 e1
      clear hei
      have hal := (Below.refl w8.heap.size w8).alloc (Nat.le_refl _) (.cells #[.int .i64 e1v, .int .i64 e2v] 83)
      have HP9 := Lib.hid (HP8.out.keep hal)
      have bp := Blk.new w8 83 #[.int .i64 e1v, .int .i64 e2v] _ rfl
      obtain ⟨pq, hpq⟩ : ∃ pq, pq = w8.heap.size := ⟨_, rfl⟩
      have hpl : gq + 1 < pq := by omega
      have hpl2 : w.heap.size + 1 < pq := by have := HP8.out.ord; omega
      rw [← hpq] at bp
      clear hal HP8
      go_upto_region 8 with fail
      rw [← hpq]
      generalize (w8.alloc (.cells #[.int .i64 e1v, .int .i64 e2v] 83)) = W9 at *
      clear hpq e0 e1
      have e0 : W9.cell? ⟨pq, 0, none⟩ = some (.int .i64 e1v) := bp.cell 0
      have e1 : W9.cell? ⟨pq, 1, none⟩ = some (.int .i64 e2v) := bp.cell 1
      have r1 : ¬ pq = w.heap.size := by omega
      have r2 : ¬ w.heap.size = pq := by omega
      have r3 : ¬ pq = w.heap.size + 1 := by omega
      have r4 : ¬ w.heap.size + 1 = pq := by omega
      have r5 : ¬ pq = gq := by omega
      have r6 : ¬ gq = pq := by omega
      clear bp hpl hpl2
      have x0 : W9.cell? ⟨gq, 0, none⟩ = some (.slice A1 n1 c1) := HP9.out.gbk.cell 0
      have x1 : W9.cell? ⟨gq, 1, none⟩ = some (.slice A2 n2 c2) := HP9.out.gbk.cell 1
      have y0 : W9.cell? ⟨gq + 1, 0, none⟩ = some (.int .i64 a.start) := HP9.out.abk.cell 0
      have y1 : W9.cell? ⟨gq + 1, 1, none⟩ = some (.slice A3 n3 c3) := HP9.out.abk.cell 1
      have y2 : W9.cell? ⟨gq + 1, 2, none⟩ = some (.slice A4 n4 c4) := HP9.out.abk.cell 2
      have z0 : W9.cell? ⟨w.heap.size, 0, none⟩ = some (.slice none 0 0) := HP9.out.res1.cell 0
      have z1 : W9.cell? ⟨w.heap.size, 1, none⟩ = some (.slice none 0 0) := HP9.out.res1.cell 1
      have z2 : W9.cell? ⟨w.heap.size + 1, 0, none⟩ = some (.int .i64 0) := HP9.out.res2.cell 0
      have z3 : W9.cell? ⟨w.heap.size + 1, 1, none⟩ = some (.slice none 0 0) := HP9.out.res2.cell 1
      have z4 : W9.cell? ⟨w.heap.size + 1, 2, none⟩ = some (.slice none 0 0) := HP9.out.res2.cell 2
      have v0 := HP9.out.res1.frozen 0
      have v1 := HP9.out.res1.frozen 1
      have v2 := HP9.out.res2.frozen 0
      have v3 := HP9.out.res2.frozen 1
      have v4 := HP9.out.res2.frozen 2
      have hlr := HP9.out.res1.lt
      have hls := HP9.out.res2.lt
      have hord := HP9.out.ord
      have q1 : ¬ gq + 1 = w.heap.size := by omega
      have q2 : ¬ w.heap.size = gq + 1 := by omega
      have q3 : ¬ gq + 1 = w.heap.size + 1 := by omega
      have q4 : ¬ w.heap.size + 1 = gq + 1 := by omega
      have q5 : ¬ gq = w.heap.size := by omega
      have q6 : ¬ w.heap.size = gq := by omega
      have q7 : ¬ gq = w.heap.size + 1 := by omega
      have q8 : ¬ w.heap.size + 1 = gq := by omega
      clear hord
      go_wp2_with fail
      go_region
      have HD := HP9.out.fin (putGA_only W9 w.heap.size (.slice A1 n1 c1) (.slice A2 n2 c2) (.int .i64 a.start) (.slice A3 n3 c3) (.slice A4 n4 c4))
      go_wp2_with fail
      refine bodyPost_ret (v := .tuple #[.pointer (some ⟨b, 0, none⟩), .agg #[.slice A1 n1 c1, .slice A2 n2 c2], .agg #[.int .i64 a.start, .slice A3 n3 c3, .slice A4 n4 c4], .int .i64 e1v, .int .i64 e2v]) (by simp [results, Tryz.results30, go_sem, z0, z1, z2, z3, z4, v0, v1, v2, v3, v4]) rfl ⟨_, _, _, _, _, _, _, rfl, HD⟩
    · skip
      have x0 : w7.cell? ⟨gq, 0, none⟩ = some (.slice A1 n1 c1) := HP7.out.gbk.cell 0
      have x1 : w7.cell? ⟨gq, 1, none⟩ = some (.slice A2 n2 c2) := HP7.out.gbk.cell 1
      have y0 : w7.cell? ⟨gq + 1, 0, none⟩ = some (.int .i64 a.start) := HP7.out.abk.cell 0
      have y1 : w7.cell? ⟨gq + 1, 1, none⟩ = some (.slice A3 n3 c3) := HP7.out.abk.cell 1
      have y2 : w7.cell? ⟨gq + 1, 2, none⟩ = some (.slice A4 n4 c4) := HP7.out.abk.cell 2
      have z0 : w7.cell? ⟨w.heap.size, 0, none⟩ = some (.slice none 0 0) := HP7.out.res1.cell 0
      have z1 : w7.cell? ⟨w.heap.size, 1, none⟩ = some (.slice none 0 0) := HP7.out.res1.cell 1
      have z2 : w7.cell? ⟨w.heap.size + 1, 0, none⟩ = some (.int .i64 0) := HP7.out.res2.cell 0
      have z3 : w7.cell? ⟨w.heap.size + 1, 1, none⟩ = some (.slice none 0 0) := HP7.out.res2.cell 1
      have z4 : w7.cell? ⟨w.heap.size + 1, 2, none⟩ = some (.slice none 0 0) := HP7.out.res2.cell 2
      have v0 := HP7.out.res1.frozen 0
      have v1 := HP7.out.res1.frozen 1
      have v2 := HP7.out.res2.frozen 0
      have v3 := HP7.out.res2.frozen 1
      have v4 := HP7.out.res2.frozen 2
      have hlr := HP7.out.res1.lt
      have hls := HP7.out.res2.lt
      have hord := HP7.out.ord
      have q1 : ¬ gq + 1 = w.heap.size := by omega
      have q2 : ¬ w.heap.size = gq + 1 := by omega
      have q3 : ¬ gq + 1 = w.heap.size + 1 := by omega
      have q4 : ¬ w.heap.size + 1 = gq + 1 := by omega
      have q5 : ¬ gq = w.heap.size := by omega
      have q6 : ¬ w.heap.size = gq := by omega
      have q7 : ¬ gq = w.heap.size + 1 := by omega
      have q8 : ¬ w.heap.size + 1 = gq := by omega
      clear hord
      go_wp2_with fail
      go_region
      have HD := HP7.out.fin (putGA_only w7 w.heap.size (.slice A1 n1 c1) (.slice A2 n2 c2) (.int .i64 a.start) (.slice A3 n3 c3) (.slice A4 n4 c4))
      go_wp2_with fail
      refine bodyPost_ret (v := .tuple #[.pointer (some ⟨b, 0, none⟩), .agg #[.slice A1 n1 c1, .slice A2 n2 c2], .agg #[.int .i64 a.start, .slice A3 n3 c3, .slice A4 n4 c4], .int .i64 x, .int .i64 y]) (by simp [results, Tryz.results30, go_sem, z0, z1, z2, z3, z4, v0, v1, v2, v3, v4]) rfl ⟨_, _, _, _, _, _, _, rfl, HD⟩
end Go.Proofs.YtallglnmeeahiaaGreat
namespace Go.Proofs.YtallglnmeeahiaaGreat
set_option linter.unusedVariables false
set_option linter.unusedSimpArgs false
def nodesL (g : Gr) (k : Wk) : List Int := k.1 :: k.2.map (stepTo g)
theorem nodesL_len (g : Gr) (k : Wk) : (nodesL g k).length = k.2.length + 1 := by simp [nodesL]
theorem nodesL_succ {g : Gr} {k : Wk} {i : Nat} {s : St} (h : k.2[i]? = some s) : (nodesL g k).take (i + 1 + 1) = (nodesL g k).take (i + 1) ++ [stepTo g s] := by
  refine take_snoc ?_
  rw [nodesL, List.getElem?_cons_succ, List.getElem?_map, h]; rfl
theorem nodesL_next {g : Gr} {k : Wk} {i : Nat} {s : St} (h : k.2[i]? = some s) : (nodesL g k)[i + 1]? = some (stepTo g s) := by rw [nodesL, List.getElem?_cons_succ, List.getElem?_map, h]; rfl
/-- the step leads from the node that the walk is at -/
def linkAt (g : Gr) (k : Wk) (i : Nat) : Bool := stepFrom g (k.2.getD i (0, false)) == (nodesL g k).getD i 0
def walkOk (g : Gr) (k : Wk) : Bool := grOk g && wi k.1 0 ((g.vals.length : Int) - 1) && decide (k.2.length ≤ 60) && (List.range k.2.length).all (linkAt g k)
/-- the nodes of a walk of the graph; none of another -/
def nodesOut (g : Gr) (k : Wk) : List Int := if walkOk g k = true then nodesL g k else []
theorem nodesOut_no {g : Gr} {k : Wk} (h : walkOk g k = false) : nodesOut g k = [] := by rw [nodesOut, h]; rfl
theorem nodesOut_yes {g : Gr} {k : Wk} (h : walkOk g k = true) : nodesOut g k = nodesL g k := by rw [nodesOut, h]; rfl
theorem linkAt_eq {g : Gr} {k : Wk} {i : Nat} {s : St} {x : Int} (h : k.2[i]? = some s) (hx : (nodesL g k)[i]? = some x) : linkAt g k i = (stepFrom g s == x) := by
  rw [linkAt, List.getD_eq_getElem?_getD, h, List.getD_eq_getElem?_getD, hx]; rfl
end Go.Proofs.YtallglnmeeahiaaGreat
