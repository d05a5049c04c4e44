/- Parts of the proof, joined into one text: AutI, AutS, AreP, Merg, Ident, Clos. -/
import Derived.Test.YtmdgloeejjepmaaPartMNPNFNDO
import Derived.Test.YtmdgloeejjepmaaPartKDPHDHPG
import Derived.Test.YtmdgloeejjepmaaPartKPCACOJC
import Derived.Test.YtmdgloeejjepmaaPartBLFIJLDM
/- The program's functions on automata. -/
namespace Go.Proofs.Ytmdgloeejjepmaa
set_option linter.unusedVariables false
set_option linter.unusedSimpArgs false
open Go.ChangeShapes Go.WideShapes Go.ChangeAt Go.RowKit
attribute [local go_sem] ext_cell ext_frozen ext_lt ext_lt1 ext_lt2 ext_lt3 ltn2 ltn3 ltn13 lts1 lts2 lts3

theorem within_any (n a b : Int) (w : World) : Calls Try.prog 70 #[.int .i64 n, .int .i64 a, .int .i64 b] w fun e w' => e = .returned (.bool (wi n a b)) ∧ w' = w := by
  unfold wi
  by_cases h1 : a ≤ n
  · have e1 : decide (a ≤ n) = true := by simpa using h1
    by_cases h2 : n ≤ b
    · go_enter Try.func70, Try.ntmps70
      go_wp2
      go_ret
      exact ⟨by simp [h1, h2], rfl⟩
    · go_enter Try.func70, Try.ntmps70
      go_wp2
      go_ret
      exact ⟨by simp [h1]; try omega, rfl⟩
  · have e1 : decide (a ≤ n) = false := by simpa using h1
    go_enter Try.func70, Try.ntmps70
    go_wp2
    go_ret
    exact ⟨by simp [h1]; try omega, rfl⟩

set_option maxHeartbeats 1000000 in
theorem implValidAutomaton (v : Value) (a : Au) (w : World) (hv : AuV 0 w.heap.size w v a) :
    Calls Try.prog 133 #[v] w fun e w' => e = .returned (.bool (auOk a)) ∧ Below w.heap.size w w' := by
  obtain ⟨ac, nx, rfl, ⟨A1, c1, rfl, hl1, hm1, -⟩, us, ⟨A2, c2, rfl, hl2, hm2, hx2⟩, hul, hrows⟩ := hv
  rw [hul] at hl2 ⊢
  have HU := Lib.hid hul
  clear hul
  unfold maxLen at hm1 hm2
  have hb0 : Below w.heap.size w (w.alloc (.cells #[.int .i64 a.start, .slice A1 a.accept.length c1, .slice A2 a.next.length c2] 55)) := (Below.refl _ _).alloc (Nat.le_refl _) _
  have HW := Lib.hid within_any
  by_cases g1 : wi a.accept.length 1 12 = true
  · by_cases g2 : wi a.start 0 ((a.accept.length : Int) - 1) = true
    · by_cases g3 : a.next.length = a.accept.length
      · have HG3 := Lib.hid g3
        have g3' : ((a.next.length : Int) != (a.accept.length : Int)) = false := by simp; omega
        have hr : auOk a = a.next.all (rowOk a.accept.length) := by simp [auOk, g1, g2, g3]
        have HR := Lib.hid hr
        clear hr g3
        obtain ⟨hn1, hn2⟩ := wi_iff.1 g1
        go_enter Try.func133, Try.ntmps133
        go_wp2_with (go_at_call 70; refine (HW.out _ _ _ _).mono ?_; rintro e w' ⟨rfl, rfl⟩)
        go_loop [32] (fun ii => ∃ i : Nat, i ≤ a.next.length ∧ ii = .int .i64 i ∧ (a.next.take i).all (rowOk a.accept.length) = true) (fun ii => a.next.length - (intOf ii).toNat)
        case atStart => exact ⟨0, Nat.zero_le _, rfl, rfl⟩
        case round =>
          obtain ⟨i, hi, rfl, hall⟩ := hrel
          have HA := Lib.hid hall
          clear hall
          by_cases hlt : i < a.next.length
          · obtain ⟨u, hu⟩ : ∃ u, us[i]? = some u := ⟨_, List.getElem?_eq_getElem (by have := HU.out; omega)⟩
            obtain ⟨b, o, rfl, -, hb1, hc⟩ := hx2 i u hu
            have hxi : a.next[i]? = some a.next[i] := List.getElem?_eq_getElem hlt
            have hvi := hrows i u _ hu hxi
            generalize a.next[i] = row at hvi hxi
            have c0 := hc 0 _ rfl
            simp only [Nat.mul_one, Nat.add_zero] at c0
            obtain ⟨A3, c3, rfl, hl3, hm3, hx3⟩ := hvi
            unfold maxLen at hm3
            have HX := Lib.hid hxi
            clear hc hx2 hu hxi hrows
            go_wp2_with fail
            go_loop [38] (fun jj => ∃ j : Nat, j ≤ row.length ∧ jj = .int .i64 j ∧ (row.take j).all (fun t => wi t (-1) ((a.accept.length : Int) - 1)) = true) (fun jj => row.length - (intOf jj).toNat)
            case atStart => exact ⟨0, Nat.zero_le _, rfl, rfl⟩
            case round =>
              obtain ⟨j, hj, rfl, hall2⟩ := hrel
              have HB := Lib.hid hall2
              clear hall2
              by_cases hlt2 : j < row.length
              · have hxj : row[j]? = some row[j] := List.getElem?_eq_getElem hlt2
                obtain ⟨b2, o2, rfl, -, hb2, hc2⟩ := hx3 j _ hxj
                generalize row[j] = t at hc2 hxj
                have d0 := hc2 0 _ rfl
                simp only [Nat.mul_one, Nat.add_zero] at d0
                have HXJ := Lib.hid hxj
                clear hc2 hx3 hxj
                by_cases g4 : wi t (-1) ((a.accept.length : Int) - 1) = true
                · go_wp2_with (go_at_call 70; refine (HW.out _ _ _ _).mono ?_; rintro e w' ⟨rfl, rfl⟩)
                  go_round
                  case rel => exact ⟨j + 1, by omega, by go_num, all_take_succ HXJ.out HB.out g4⟩
                  case measure => simp [intOf]; omega
                · simp only [Bool.not_eq_true] at g4
                  have hfin : auOk a = false := by
                    rw [HR.out]
                    refine all_false_of HX.out ?_
                    rw [rowOk, all_false_of HXJ.out g4]
                    rfl
                  have HF := Lib.hid hfin
                  clear hfin
                  go_wp2_with (go_at_call 70; refine (HW.out _ _ _ _).mono ?_; rintro e w' ⟨rfl, rfl⟩)
                  go_ret
                  exact ⟨by rw [HF.out]; rfl, hb0⟩
              · obtain rfl : j = row.length := by omega
                have hall3 : row.all (fun t => wi t (-1) ((a.accept.length : Int) - 1)) = true := by have := HB.out; rwa [List.take_length] at this
                have H3 := Lib.hid hall3
                clear hall3
                clear hx3
                by_cases g9 : row.length = 9
                · have g9' : ((row.length : Int) != 9) = false := by simp; omega
                  have hok : rowOk a.accept.length row = true := by rw [rowOk, H3.out, g9]; rfl
                  have HO := Lib.hid hok
                  clear hok g9
                  go_wp2_with fail
                  go_round
                  case rel => exact ⟨i + 1, by omega, by go_num, all_take_succ HX.out HA.out HO.out⟩
                  case measure => simp [intOf]; omega
                · have g9' : ((row.length : Int) != 9) = true := by simp; omega
                  have hfin : auOk a = false := by
                    rw [HR.out]
                    refine all_false_of HX.out ?_
                    rw [rowOk]
                    simp [g9]
                  have HF := Lib.hid hfin
                  clear hfin g9
                  go_wp2_with fail
                  go_ret
                  exact ⟨by rw [HF.out]; rfl, hb0⟩
          · obtain rfl : i = a.next.length := by omega
            have hfin : auOk a = true := by rw [HR.out]; have := HA.out; rwa [List.take_length] at this
            have HF := Lib.hid hfin
            clear hfin hx2 hrows
            go_wp2_with fail
            go_ret
            exact ⟨by rw [HF.out]; rfl, hb0⟩
      · have g3' : ((a.next.length : Int) != (a.accept.length : Int)) = true := by simp; omega
        have hr : auOk a = false := by simp [auOk, g3]
        have HR := Lib.hid hr
        clear hr g3
        go_enter Try.func133, Try.ntmps133
        go_wp2_with (go_at_call 70; refine (HW.out _ _ _ _).mono ?_; rintro e w' ⟨rfl, rfl⟩)
        go_ret
        exact ⟨by rw [HR.out]; rfl, hb0⟩
    · simp only [Bool.not_eq_true] at g2
      have hr : auOk a = false := by simp [auOk, g2]
      have HR := Lib.hid hr
      clear hr
      go_enter Try.func133, Try.ntmps133
      go_wp2_with (go_at_call 70; refine (HW.out _ _ _ _).mono ?_; rintro e w' ⟨rfl, rfl⟩)
      go_ret
      exact ⟨by rw [HR.out]; rfl, hb0⟩
  · simp only [Bool.not_eq_true] at g1
    have hr : auOk a = false := by simp [auOk, g1]
    have HR := Lib.hid hr
    clear hr
    go_enter Try.func133, Try.ntmps133
    go_wp2_with (go_at_call 70; refine (HW.out _ _ _ _).mono ?_; rintro e w' ⟨rfl, rfl⟩)
    go_ret
    exact ⟨by rw [HR.out]; rfl, hb0⟩

set_option maxHeartbeats 1000000 in
theorem statesOk_any (v lv : Value) (a : Au) (ss : List Int) (w : World) (hv : AuV 0 w.heap.size w v a) (hl : SlE w cI 1 lv ss) :
    Calls Try.prog 92 #[v, lv] w fun e w' => e = .returned (.bool (ss.all (fun s => wi s 0 ((a.accept.length : Int) - 1)) && auOk a)) ∧ Below w.heap.size w w' := by
  have hv0 := hv
  obtain ⟨ac, nx, rfl, ⟨A1, c1, rfl, hl1, hm1, -⟩, -⟩ := hv
  obtain ⟨A2, c2, rfl, hl2, hm2, hx2⟩ := hl
  unfold maxLen at hm1 hm2
  have hb0 : Below w.heap.size w (w.alloc (.cells #[.int .i64 a.start, .slice A1 a.accept.length c1, nx] 55)) := (Below.refl _ _).alloc (Nat.le_refl _) _
  have HW := Lib.hid within_any
  go_enter Try.func92, Try.ntmps92
  go_wp2_with fail
  go_loop [9] (fun ii => ∃ i : Nat, i ≤ ss.length ∧ ii = .int .i64 i ∧ (ss.take i).all (fun s => wi s 0 ((a.accept.length : Int) - 1)) = true) (fun ii => ss.length - (intOf ii).toNat)
  case atStart => exact ⟨0, Nat.zero_le _, rfl, rfl⟩
  case round =>
    obtain ⟨i, hi, rfl, hall⟩ := hrel
    have HA := Lib.hid hall
    clear hall
    by_cases hlt : i < ss.length
    · have hxi : ss[i]? = some ss[i] := List.getElem?_eq_getElem hlt
      obtain ⟨b, o, rfl, -, hb1, hc⟩ := hx2 i _ hxi
      generalize ss[i] = s at hc hxi
      have c0 := hc 0 _ rfl
      simp only [Nat.mul_one, Nat.add_zero] at c0
      have HX := Lib.hid hxi
      clear hc hx2 hxi
      by_cases g4 : wi s 0 ((a.accept.length : Int) - 1) = true
      · go_wp2_with (go_at_call 70; refine (HW.out _ _ _ _).mono ?_; rintro e w' ⟨rfl, rfl⟩)
        go_round
        case rel => exact ⟨i + 1, by omega, by go_num, all_take_succ HX.out HA.out g4⟩
        case measure => simp [intOf]; omega
      · simp only [Bool.not_eq_true] at g4
        have hfin : ss.all (fun s => wi s 0 ((a.accept.length : Int) - 1)) = false := all_false_of HX.out g4
        have HF := Lib.hid hfin
        clear hfin
        go_wp2_with (go_at_call 70; refine (HW.out _ _ _ _).mono ?_; rintro e w' ⟨rfl, rfl⟩)
        go_ret
        exact ⟨by rw [HF.out]; rfl, hb0⟩
    · obtain rfl : i = ss.length := by omega
      have hfin : ss.all (fun s => wi s 0 ((a.accept.length : Int) - 1)) = true := by have := HA.out; rwa [List.take_length] at this
      have HF := Lib.hid hfin
      clear hfin hx2
      go_wp2_with fail
      refine (implValidAutomaton _ a _ (hv0.keep hb0)).mono ?_
      rintro e w1 ⟨rfl, hb1⟩
      go_wp2_with fail
      go_ret
      exact ⟨by rw [HF.out]; rfl, below_trans hb0 hb1⟩
end Go.Proofs.Ytmdgloeejjepmaa

/- The reference's functions on automata. -/
namespace Go.Proofs.Ytmdgloeejjepmaa
set_option linter.unusedVariables false
set_option linter.unusedSimpArgs false
open Go.ChangeShapes Go.WideShapes Go.ChangeAt Go.RowKit
attribute [local go_sem] ext_cell ext_frozen ext_lt ext_lt1 ext_lt2 ext_lt3 ltn2 ltn3 ltn13 lts1 lts2 lts3

theorem l1In_any (n a b : Int) (w : World) : Calls Try.prog 66 #[.int .i64 n, .int .i64 a, .int .i64 b] w fun e w' => e = .returned (.bool (wi n a b)) ∧ w' = w := by
  unfold wi
  by_cases h1 : a ≤ n
  · have e1 : decide (a ≤ n) = true := by simpa using h1
    by_cases h2 : n ≤ b
    · go_enter Try.func66, Try.ntmps66
      go_wp2
      go_ret
      exact ⟨by simp [h1, h2], rfl⟩
    · go_enter Try.func66, Try.ntmps66
      go_wp2
      go_ret
      exact ⟨by simp [h1]; try omega, rfl⟩
  · have e1 : decide (a ≤ n) = false := by simpa using h1
    go_enter Try.func66, Try.ntmps66
    go_wp2
    go_ret
    exact ⟨by simp [h1]; try omega, rfl⟩

def auFits (a : Au) : Bool := wi a.start 0 ((a.accept.length : Int) - 1) && (a.next.length == a.accept.length) && a.next.all (rowOk a.accept.length)
theorem auFits_ok (a : Au) : (decide (a.accept.length ≤ 12) && auFits a) = auOk a := by
  rw [Bool.eq_iff_iff]
  simp only [auFits, auOk, Bool.and_eq_true, decide_eq_true_eq, wi_iff, beq_iff_eq]
  constructor
  · rintro ⟨h1, ⟨h2, h3⟩, h4⟩
    exact ⟨⟨⟨by omega, h2⟩, h3⟩, h4⟩
  · rintro ⟨⟨⟨h1, h2⟩, h3⟩, h4⟩
    exact ⟨by omega, ⟨h2, h3⟩, h4⟩

set_option maxHeartbeats 1000000 in
theorem l11Fits_any (v : Value) (a : Au) (w : World) (hv : AuV 0 w.heap.size w v a) :
    Calls Try.prog 163 #[v] w fun e w' => e = .returned (.bool (auFits a)) ∧ Below w.heap.size w w' := by
  obtain ⟨ac, nx, rfl, ⟨A1, c1, rfl, hl1, hm1, -⟩, us, ⟨A2, c2, rfl, hl2, hm2, hx2⟩, hul, hrows⟩ := hv
  rw [hul] at hl2 ⊢
  have HU := Lib.hid hul
  clear hul
  unfold maxLen at hm1 hm2
  have hb0 : Below w.heap.size w (w.alloc (.cells #[.int .i64 a.start, .slice A1 a.accept.length c1, .slice A2 a.next.length c2] 55)) := (Below.refl _ _).alloc (Nat.le_refl _) _
  have HW := Lib.hid l1In_any
  by_cases g2 : wi a.start 0 ((a.accept.length : Int) - 1) = true
  · by_cases g3 : a.next.length = a.accept.length
    · have HG3 := Lib.hid g3
      have g3' : ((a.next.length : Int) != (a.accept.length : Int)) = false := by simp; omega
      have hr : auFits a = a.next.all (rowOk a.accept.length) := by simp [auFits, g2, g3]
      have HR := Lib.hid hr
      clear hr g3
      obtain ⟨hn1, hn2⟩ := wi_iff.1 g2
      go_enter Try.func163, Try.ntmps163
      go_wp2_with (go_at_call 66; refine (HW.out _ _ _ _).mono ?_; rintro e w' ⟨rfl, rfl⟩)
      go_loop [4, 5] (fun ii jj => ∃ i : Nat, i ≤ a.accept.length ∧ ii = .int .i64 i ∧ (a.next.take i).all (rowOk a.accept.length) = true) (fun ii _ => a.accept.length - (intOf ii).toNat)
      case atStart => exact ⟨0, Nat.zero_le _, rfl, rfl⟩
      case round =>
        obtain ⟨i, hi, rfl, hall⟩ := hrel
        have HA := Lib.hid hall
        clear hall
        by_cases hlt : i < a.accept.length
        · have hlt' : i < a.next.length := by have := HG3.out; omega
          obtain ⟨u, hu⟩ : ∃ u, us[i]? = some u := ⟨_, List.getElem?_eq_getElem (by have := HU.out; omega)⟩
          obtain ⟨b, o, rfl, -, hb1, hc⟩ := hx2 i u hu
          have hxi : a.next[i]? = some a.next[i] := List.getElem?_eq_getElem hlt'
          have hvi := hrows i u _ hu hxi
          generalize a.next[i] = row at hvi hxi
          have c0 := hc 0 _ rfl
          simp only [Nat.mul_one, Nat.add_zero] at c0
          obtain ⟨A3, c3, rfl, hl3, hm3, hx3⟩ := hvi
          unfold maxLen at hm3
          have HX := Lib.hid hxi
          clear hc hx2 hu hxi hrows
          by_cases g9 : row.length = 9
          · have g9' : ((row.length : Int) != 9) = false := by simp; omega
            have HG9 := Lib.hid g9
            have hl9 : 9 ≤ row.length := by omega
            clear g9
            go_wp2_with fail
            go_loop [5] (fun jj => ∃ j : Nat, j ≤ 9 ∧ jj = .int .i64 j ∧ (row.take j).all (fun t => wi t (-1) ((a.accept.length : Int) - 1)) = true) (fun jj => 9 - (intOf jj).toNat)
            case atStart => exact ⟨0, Nat.zero_le _, rfl, rfl⟩
            case round =>
              obtain ⟨j, hj, rfl, hall2⟩ := hrel
              have HB := Lib.hid hall2
              clear hall2
              by_cases hlt2 : j < 9
              · have hlt3 : j < row.length := by omega
                have hxj : row[j]? = some row[j] := List.getElem?_eq_getElem hlt3
                obtain ⟨b2, o2, rfl, -, hb2, hc2⟩ := hx3 j _ hxj
                generalize row[j] = t at hc2 hxj
                have d0 := hc2 0 _ rfl
                simp only [Nat.mul_one, Nat.add_zero] at d0
                have HXJ := Lib.hid hxj
                clear hc2 hx3 hxj
                by_cases g4 : wi t (-1) ((a.accept.length : Int) - 1) = true
                · go_wp2_with (go_at_call 66; refine (HW.out _ _ _ _).mono ?_; rintro e w' ⟨rfl, rfl⟩)
                  go_round
                  case rel => exact ⟨j + 1, by omega, by go_num, all_take_succ HXJ.out HB.out g4⟩
                  case measure => simp [intOf]; omega
                · simp only [Bool.not_eq_true] at g4
                  have hfin : auFits a = false := by
                    rw [HR.out]
                    refine all_false_of HX.out ?_
                    rw [rowOk, all_false_of HXJ.out g4]
                    rfl
                  have HF := Lib.hid hfin
                  clear hfin
                  go_wp2_with (go_at_call 66; refine (HW.out _ _ _ _).mono ?_; rintro e w' ⟨rfl, rfl⟩)
                  go_ret
                  exact ⟨by rw [HF.out]; rfl, hb0⟩
              · obtain rfl : j = 9 := by omega
                have hok : rowOk a.accept.length row = true := by
                  have h3 := HB.out
                  rw [show 9 = row.length from HG9.out.symm, List.take_length] at h3
                  rw [rowOk, h3, HG9.out]
                  rfl
                have HO := Lib.hid hok
                clear hok hx3
                go_wp2_with fail
                go_round
                case rel => exact ⟨i + 1, by omega, by go_num, all_take_succ HX.out HA.out HO.out⟩
                case measure => simp [intOf]; omega
          · have g9' : ((row.length : Int) != 9) = true := by simp; omega
            have hfin : auFits a = false := by
              rw [HR.out]
              refine all_false_of HX.out ?_
              rw [rowOk]
              simp [g9]
            have HF := Lib.hid hfin
            clear hfin g9
            go_wp2_with fail
            go_ret
            exact ⟨by rw [HF.out]; rfl, hb0⟩
        · obtain rfl : i = a.accept.length := by omega
          have hfin : auFits a = true := by rw [HR.out]; have := HA.out; rw [← HG3.out, List.take_length] at this; rw [HG3.out] at this; exact this
          have HF := Lib.hid hfin
          clear hfin hx2 hrows
          go_wp2_with fail
          go_ret
          exact ⟨by rw [HF.out]; rfl, hb0⟩
    · have g3' : ((a.next.length : Int) != (a.accept.length : Int)) = true := by simp; omega
      have hr : auFits a = false := by simp [auFits, g3]
      have HR := Lib.hid hr
      clear hr g3
      go_enter Try.func163, Try.ntmps163
      go_wp2_with (go_at_call 66; refine (HW.out _ _ _ _).mono ?_; rintro e w' ⟨rfl, rfl⟩)
      go_ret
      exact ⟨by rw [HR.out]; rfl, hb0⟩
  · simp only [Bool.not_eq_true] at g2
    have hr : auFits a = false := by simp [auFits, g2]
    have HR := Lib.hid hr
    clear hr
    go_enter Try.func163, Try.ntmps163
    go_wp2_with (go_at_call 66; refine (HW.out _ _ _ _).mono ?_; rintro e w' ⟨rfl, rfl⟩)
    go_ret
    exact ⟨by rw [HR.out]; rfl, hb0⟩

theorem specValidAutomaton (v : Value) (a : Au) (w : World) (hv : AuV 0 w.heap.size w v a) :
    Calls Try.prog 129 #[v] w fun e w' => e = .returned (.bool (auOk a)) ∧ Below w.heap.size w w' := by
  have hv0 := hv
  obtain ⟨ac, nx, rfl, ⟨A1, c1, rfl, hl1, hm1, -⟩, -⟩ := hv
  unfold maxLen at hm1
  have hb0 : Below w.heap.size w (w.alloc (.cells #[.int .i64 a.start, .slice A1 a.accept.length c1, nx] 55)) := (Below.refl _ _).alloc (Nat.le_refl _) _
  have hok := auFits_ok a
  by_cases g : a.accept.length ≤ 12
  · have e1 : decide ((a.accept.length : Int) ≤ 12) = true := by simp; omega
    rw [decide_eq_true g, Bool.true_and] at hok
    have HO := Lib.hid hok
    clear hok
    go_enter Try.func129, Try.ntmps129
    go_wp2_with fail
    refine (l11Fits_any _ a _ (hv0.keep hb0)).mono ?_
    rintro e w1 ⟨rfl, hb1⟩
    go_wp2_with fail
    go_ret
    exact ⟨by rw [← HO.out]; rfl, below_trans hb0 hb1⟩
  · have e1 : decide ((a.accept.length : Int) ≤ 12) = false := by simp; omega
    rw [decide_eq_false g, Bool.false_and] at hok
    have HO := Lib.hid hok
    clear hok
    go_enter Try.func129, Try.ntmps129
    go_wp2_with fail
    go_ret
    exact ⟨by rw [← HO.out]; rfl, hb0⟩

theorem l22State_any (v : Value) (a : Au) (s : Int) (w : World) (hv : AuV 0 w.heap.size w v a) :
    Calls Try.prog 88 #[v, .int .i64 s] w fun e w' => e = .returned (.bool (auOk a && wi s 0 ((a.accept.length : Int) - 1))) ∧ Below w.heap.size w w' := by
  have hv0 := hv
  obtain ⟨ac, nx, rfl, ⟨A1, c1, rfl, hl1, hm1, -⟩, -⟩ := hv
  unfold maxLen at hm1
  have hb0 : Below w.heap.size w (w.alloc (.cells #[.int .i64 a.start, .slice A1 a.accept.length c1, nx] 55)) := (Below.refl _ _).alloc (Nat.le_refl _) _
  by_cases g : auOk a = true
  · rw [g, Bool.true_and]
    go_enter Try.func88, Try.ntmps88
    go_wp2_with fail
    refine (specValidAutomaton _ a _ (hv0.keep hb0)).mono ?_
    rintro e w1 ⟨rfl, hb1⟩
    have b0 := (Blk.new w _ _ w.heap.size rfl).keep hb1
    have x1 : w1.cell? ⟨w.heap.size, 1, none⟩ = some (.slice A1 a.accept.length c1) := b0.cell 1
    clear b0
    go_wp2_with fail
    refine (l1In_any _ _ _ _).mono ?_
    rintro e w2 ⟨rfl, rfl⟩
    go_wp2_with fail
    go_ret
    exact ⟨rfl, below_trans hb0 hb1⟩
  · simp only [Bool.not_eq_true] at g
    rw [g, Bool.false_and]
    go_enter Try.func88, Try.ntmps88
    go_wp2_with fail
    refine (specValidAutomaton _ a _ (hv0.keep hb0)).mono ?_
    rintro e w1 ⟨rfl, hb1⟩
    go_wp2_with fail
    go_ret
    exact ⟨rfl, below_trans hb0 hb1⟩
end Go.Proofs.Ytmdgloeejjepmaa

/- Lists of pairs that rise, in both of the program's halves: ArePairs. -/
namespace Go.Proofs.Ytmdgloeejjepmaa
set_option linter.unusedVariables false
set_option linter.unusedSimpArgs false
open Go.ChangeShapes Go.WideShapes Go.ChangeAt Go.RowKit
attribute [local go_sem] ext_cell ext_frozen ext_lt ext_lt1 ext_lt2 ext_lt3 ltn2 ltn3 ltn13 lts1 lts2 lts3

def prAt (l : List Pr) (i : Nat) : Bool :=
  match l[i]? with
  | none => true
  | some x => wi x.1 0 4 && wi x.2 0 4 && (decide (i = 0) || match l[i - 1]? with
    | some p => ltP p x
    | none => true)
def arePL (l : List Pr) : Bool := (List.range l.length).all (prAt l)
theorem arePL_in {l : List Pr} (h : arePL l = true) : ∀ p ∈ l, inB p.1 ∧ inB p.2 := fun p hp => by
  obtain ⟨i, hi, rfl⟩ := List.getElem_of_mem hp
  have := (List.all_eq_true.1 h) i (List.mem_range.2 hi)
  rw [prAt, List.getElem?_eq_getElem hi] at this
  simp only [Bool.and_eq_true, wi_iff] at this
  exact ⟨this.1.1, this.1.2⟩

set_option maxHeartbeats 2000000 in
set_option maxRecDepth 100000 in
theorem implAre (v : Value) (l : List Pr) (w : World) (hv : SlE w cPr 2 v l) (hn : l.length ≤ 1048576) :
    Calls Try.prog 71 #[v] w fun e w' => e = .returned (.bool (arePL l)) ∧ Below w.heap.size w w' := by
  have hsl := hv
  obtain ⟨A, c, rfl, hl, hm, -⟩ := hv
  unfold maxLen at hm
  have hin : ∀ (n : Int) (w : World), Calls Try.prog 70 #[.int .i64 n, .int .i64 0, .int .i64 4] w fun e w' => e = .returned (.bool (wi n 0 4)) ∧ Below w.heap.size w w' := fun n w => by
    refine (within_any n 0 4 w).mono ?_
    rintro e w' ⟨rfl, rfl⟩
    exact ⟨rfl, Below.refl _ _⟩
  obtain ⟨R, hR⟩ : ∃ R, R = arePL l := ⟨_, rfl⟩
  rw [← hR]
  have HR := Lib.hid hR
  have HSL := Lib.hid hsl
  have HIN := Lib.hid hin
  clear hR hsl hin
  go_enter Try.func71, Try.ntmps71
  go_wp2_with fail
  go_loopw [7] (fun ii wr => ∃ (i : Nat) (u : World), i ≤ l.length ∧ ii = .int .i64 (i : Int) ∧ (List.range i).all (prAt l) = true ∧ wr = ext w u) (fun ii _ => l.length - (intOf ii).toNat)
  case atStart => exact ⟨0, _, Nat.zero_le _, rfl, rfl, ext_self _⟩
  case round =>
    obtain ⟨i, u, hi, rfl, hall, rfl⟩ := hrel
    have HA := Lib.hid hall
    clear hall
    by_cases hlt : i < l.length
    · have hxi : l[i]? = some l[i] := List.getElem?_eq_getElem hlt
      generalize l[i] = x at hxi
      obtain ⟨b, o, rfl, ⟨-, hb⟩, d0, d1⟩ := HSL.out.prA hxi
      obtain ⟨x1, x2⟩ := x
      simp only at d0 d1
      have HX := Lib.hid hxi
      have hii : (i : Int) < (l.length : Int) := by omega
      clear hxi
      have hbx : ∀ o u2, ∃ z, ext ((ext w u).alloc o) u2 = ext w z := fun o u2 => ext_of (below_trans (ext_below _ _) (below_trans ((Below.refl _ _).alloc (Nat.le_refl _) _) (ext_below _ _)))
      cases g1 : wi x1 0 4 with
      | false =>
        have G1 := Lib.hid g1
        have hfin : R = false := by rw [HR.out]; exact range_all_false hlt (by rw [prAt, HX.out]; simp [G1.out])
        have HF := Lib.hid hfin
        clear hfin
        go_wp2_with fail
        refine wp_region_ext_lit (by kernel_rfl) (by kernel_rfl) ?_
        repeat (go_big_quiet_step ((first | (go_at_call 70; exact Calls.ext_of (HIN.out _ _)))))
        refine wpQuiet_nil ?_
        intro _ hw'
        obtain ⟨u2, hw''⟩ := hw'
        subst hw''
        go_wp2_with fail
        go_ret
        exact ⟨by rw [HF.out]; rfl, (below_trans (ext_below _ _) (below_trans ((Below.refl _ _).alloc (Nat.le_refl _) _) (ext_below _ _)))⟩
      | true =>
        have G1 := Lib.hid g1
        cases g2 : wi x2 0 4 with
        | false =>
          have G2 := Lib.hid g2
          have hfin : R = false := by rw [HR.out]; exact range_all_false hlt (by rw [prAt, HX.out]; simp [G1.out, G2.out])
          have HF := Lib.hid hfin
          clear hfin
          go_wp2_with fail
          refine wp_region_ext_lit (by kernel_rfl) (by kernel_rfl) ?_
          repeat (go_big_quiet_step ((first | (go_at_call 70; exact Calls.ext_of (HIN.out _ _)))))
          refine wpQuiet_nil ?_
          intro _ hw'
          obtain ⟨u2, hw''⟩ := hw'
          subst hw''
          go_wp2_with fail
          go_ret
          exact ⟨by rw [HF.out]; rfl, (below_trans (ext_below _ _) (below_trans ((Below.refl _ _).alloc (Nat.le_refl _) _) (ext_below _ _)))⟩
        | true =>
          have G2 := Lib.hid g2
          by_cases hi0 : i = 0
          · subst hi0
            simp only [Nat.zero_mul, Nat.add_zero, Nat.zero_add] at d0 d1
            have hat : prAt l 0 = true := by rw [prAt, HX.out]; simp [G1.out, G2.out]
            have HAT := Lib.hid hat
            clear hat
            go_wp2_with fail
            refine wp_region_ext_lit (by kernel_rfl) (by kernel_rfl) ?_
            repeat (go_big_quiet_step ((first | (go_at_call 70; exact Calls.ext_of (HIN.out _ _)))))
            refine wpQuiet_nil ?_
            intro _ hw'
            obtain ⟨u2, hw''⟩ := hw'
            subst hw''
            go_wp2_with fail
            go_roundw
            case rel =>
              obtain ⟨z, hz⟩ := hbx _ u2
              exact ⟨1, z, by omega, by go_num, range_all_succ HA.out HAT.out, hz⟩
            case measure => simp [intOf]; omega
          · have hi1 : 0 < i := by omega
            have hxj : l[i - 1]? = some l[i - 1] := List.getElem?_eq_getElem (by omega)
            generalize l[i - 1] = p at hxj
            obtain ⟨b9, o9, ho9, -, p0, p1⟩ := HSL.out.prA hxj
            obtain ⟨rfl, rfl⟩ : b = b9 ∧ o = o9 := by injection ho9 with h1; injection h1 with h1 h2; exact ⟨h1, h2⟩
            obtain ⟨y1, y2⟩ := p
            simp only at p0 p1
            have HXJ := Lib.hid hxj
            have hb1' : b < w.heap.size + 1 := by omega
            have hi00 : ((i : Int) > 0) := by omega
            clear hxj ho9
            have h3 : ∀ w : World, Calls Try.prog 122 #[.agg #[.int .i64 y1, .int .i64 y2], .agg #[.int .i64 x1, .int .i64 x2]] w fun e w' => e = .returned (.int .i64 (cmpP (y1, y2) (x1, x2))) ∧ Below w.heap.size w w' := fun w => by
              refine (comparePairs_any (y1, y2) (x1, x2) w).mono ?_
              rintro e w' ⟨rfl, rfl⟩
              exact ⟨rfl, ((Below.refl _ _).alloc (Nat.le_refl _) _).alloc (by simp) _⟩
            have hco := ltOf_cmp (y1, y2) (x1, x2)
            rw [ltOf] at hco
            generalize cmpP (y1, y2) (x1, x2) = cc at h3 hco
            cases gl : ltP (y1, y2) (x1, x2) with
            | false =>
              rw [gl] at hco
              have GL := Lib.hid gl
              clear gl
              have hge : decide (cc ≥ 0) = true := by simp only [decide_eq_false_iff_not, decide_eq_true_eq] at hco ⊢; omega
              clear hco
              have hfin : R = false := by rw [HR.out]; exact range_all_false hlt (by rw [prAt, HX.out]; simp [G1.out, G2.out, HXJ.out, hi0, GL.out])
              have HF := Lib.hid hfin
              clear hfin
              go_wp2_with fail
              have q1 : IntKind.i64.wrap ((i : Int) - 1) = (i : Int) - 1 := IntWalk.i64_in _ (by omega)
              have q2 : 0 ≤ (i : Int) - 1 := by omega
              have q3 : (i : Int) - 1 < (l.length : Int) := by omega
              have q4 : ((i : Int) - 1).toNat = i - 1 := by omega
              refine wp_region_ext_lit (by kernel_rfl) (by kernel_rfl) ?_
              repeat (go_big_quiet_step ((first | (go_at_call 70; exact Calls.ext_of (HIN.out _ _)) | (go_at_call 122; exact Calls.ext_of (h3 _)))))
              refine wpQuiet_nil ?_
              intro _ hw'
              obtain ⟨u2, hw''⟩ := hw'
              subst hw''
              clear q1 q2 q3 q4
              go_wp2_with fail
              go_ret
              exact ⟨by rw [HF.out]; rfl, (below_trans (ext_below _ _) (below_trans ((Below.refl _ _).alloc (Nat.le_refl _) _) (ext_below _ _)))⟩
            | true =>
              rw [gl] at hco
              have GL := Lib.hid gl
              clear gl
              have hge : decide (cc ≥ 0) = false := by simp only [decide_eq_false_iff_not, decide_eq_true_eq] at hco ⊢; omega
              clear hco
              have hat : prAt l i = true := by rw [prAt, HX.out]; simp [G1.out, G2.out, HXJ.out, GL.out]
              have HAT := Lib.hid hat
              clear hat
              go_wp2_with fail
              have q1 : IntKind.i64.wrap ((i : Int) - 1) = (i : Int) - 1 := IntWalk.i64_in _ (by omega)
              have q2 : 0 ≤ (i : Int) - 1 := by omega
              have q3 : (i : Int) - 1 < (l.length : Int) := by omega
              have q4 : ((i : Int) - 1).toNat = i - 1 := by omega
              refine wp_region_ext_lit (by kernel_rfl) (by kernel_rfl) ?_
              repeat (go_big_quiet_step ((first | (go_at_call 70; exact Calls.ext_of (HIN.out _ _)) | (go_at_call 122; exact Calls.ext_of (h3 _)))))
              refine wpQuiet_nil ?_
              intro _ hw'
              obtain ⟨u2, hw''⟩ := hw'
              subst hw''
              clear q1 q2 q3 q4
              go_wp2_with fail
              go_roundw
              case rel =>
                obtain ⟨z, hz⟩ := hbx _ u2
                exact ⟨i + 1, z, by omega, by go_num, range_all_succ HA.out HAT.out, hz⟩
              case measure => simp [intOf]; omega
    · obtain rfl : i = l.length := by omega
      have hfin : R = true := by rw [HR.out]; exact HA.out
      have HF := Lib.hid hfin
      clear hfin
      go_wp2_with fail
      go_ret
      exact ⟨by rw [HF.out]; rfl, ext_below _ _⟩

set_option maxHeartbeats 2000000 in
set_option maxRecDepth 100000 in
theorem specAre (v : Value) (l : List Pr) (w : World) (hv : SlE w cPr 2 v l) (hn : l.length ≤ 1048576) :
    Calls Try.prog 67 #[v] w fun e w' => e = .returned (.bool (arePL l)) ∧ Below w.heap.size w w' := by
  have hsl := hv
  obtain ⟨A, c, rfl, hl, hm, -⟩ := hv
  unfold maxLen at hm
  have hin : ∀ (n : Int) (w : World), Calls Try.prog 66 #[.int .i64 n, .int .i64 0, .int .i64 4] w fun e w' => e = .returned (.bool (wi n 0 4)) ∧ Below w.heap.size w w' := fun n w => by
    refine (l1In_any n 0 4 w).mono ?_
    rintro e w' ⟨rfl, rfl⟩
    exact ⟨rfl, Below.refl _ _⟩
  obtain ⟨R, hR⟩ : ∃ R, R = arePL l := ⟨_, rfl⟩
  rw [← hR]
  have HR := Lib.hid hR
  have HSL := Lib.hid hsl
  have HIN := Lib.hid hin
  clear hR hsl hin
  go_enter Try.func67, Try.ntmps67
  go_wp2_with fail
  go_loopw [3] (fun ii wr => ∃ (i : Nat) (u : World), i ≤ l.length ∧ ii = .int .i64 (i : Int) ∧ (List.range i).all (prAt l) = true ∧ wr = ext w u) (fun ii _ => l.length - (intOf ii).toNat)
  case atStart => exact ⟨0, _, Nat.zero_le _, rfl, rfl, ext_self _⟩
  case round =>
    obtain ⟨i, u, hi, rfl, hall, rfl⟩ := hrel
    have HA := Lib.hid hall
    clear hall
    by_cases hlt : i < l.length
    · have hxi : l[i]? = some l[i] := List.getElem?_eq_getElem hlt
      generalize l[i] = x at hxi
      obtain ⟨b, o, rfl, ⟨-, hb⟩, d0, d1⟩ := HSL.out.prA hxi
      obtain ⟨x1, x2⟩ := x
      simp only at d0 d1
      have HX := Lib.hid hxi
      have hii : (i : Int) < (l.length : Int) := by omega
      clear hxi
      have hbx : ∀ u2, ∃ z, ext (ext w u) u2 = ext w z := fun u2 => ext_of (below_trans (ext_below _ _) (ext_below _ _))
      cases g1 : wi x1 0 4 with
      | false =>
        have G1 := Lib.hid g1
        have hfin : R = false := by rw [HR.out]; exact range_all_false hlt (by rw [prAt, HX.out]; simp [G1.out])
        have HF := Lib.hid hfin
        clear hfin
        go_wp2_with fail
        refine wp_region_ext_lit (by kernel_rfl) (by kernel_rfl) ?_
        repeat (go_big_quiet_step ((first | (go_at_call 66; exact Calls.ext_of (HIN.out _ _)))))
        refine wpQuiet_nil ?_
        intro _ hw'
        obtain ⟨u2, hw''⟩ := hw'
        subst hw''
        go_wp2_with fail
        go_ret
        exact ⟨by rw [HF.out]; rfl, (below_trans (ext_below _ _) (ext_below _ _))⟩
      | true =>
        have G1 := Lib.hid g1
        cases g2 : wi x2 0 4 with
        | false =>
          have G2 := Lib.hid g2
          have hfin : R = false := by rw [HR.out]; exact range_all_false hlt (by rw [prAt, HX.out]; simp [G1.out, G2.out])
          have HF := Lib.hid hfin
          clear hfin
          go_wp2_with fail
          refine wp_region_ext_lit (by kernel_rfl) (by kernel_rfl) ?_
          repeat (go_big_quiet_step ((first | (go_at_call 66; exact Calls.ext_of (HIN.out _ _)))))
          refine wpQuiet_nil ?_
          intro _ hw'
          obtain ⟨u2, hw''⟩ := hw'
          subst hw''
          go_wp2_with fail
          go_ret
          exact ⟨by rw [HF.out]; rfl, (below_trans (ext_below _ _) (ext_below _ _))⟩
        | true =>
          have G2 := Lib.hid g2
          by_cases hi0 : i = 0
          · subst hi0
            simp only [Nat.zero_mul, Nat.add_zero, Nat.zero_add] at d0 d1
            have hat : prAt l 0 = true := by rw [prAt, HX.out]; simp [G1.out, G2.out]
            have HAT := Lib.hid hat
            clear hat
            go_wp2_with fail
            refine wp_region_ext_lit (by kernel_rfl) (by kernel_rfl) ?_
            repeat (go_big_quiet_step ((first | (go_at_call 66; exact Calls.ext_of (HIN.out _ _)))))
            refine wpQuiet_nil ?_
            intro _ hw'
            obtain ⟨u2, hw''⟩ := hw'
            subst hw''
            go_wp2_with fail
            go_roundw
            case rel =>
              obtain ⟨z, hz⟩ := hbx u2
              exact ⟨1, z, by omega, by go_num, range_all_succ HA.out HAT.out, hz⟩
            case measure => simp [intOf]; omega
          · have hi1 : 0 < i := by omega
            have hxj : l[i - 1]? = some l[i - 1] := List.getElem?_eq_getElem (by omega)
            generalize l[i - 1] = p at hxj
            obtain ⟨b9, o9, ho9, -, p0, p1⟩ := HSL.out.prA hxj
            obtain ⟨rfl, rfl⟩ : b = b9 ∧ o = o9 := by injection ho9 with h1; injection h1 with h1 h2; exact ⟨h1, h2⟩
            obtain ⟨y1, y2⟩ := p
            simp only at p0 p1
            have HXJ := Lib.hid hxj
            have hb1' : b < w.heap.size + 1 := by omega
            have hi00 : ((i : Int) > 0) := by omega
            clear hxj ho9
            have h3 := l15Less_any (y1, y2) (x1, x2)
            simp only at h3
            cases gl : ltP (y1, y2) (x1, x2) with
            | false =>
              rw [gl] at h3
              have GL := Lib.hid gl
              clear gl
              have hfin : R = false := by rw [HR.out]; exact range_all_false hlt (by rw [prAt, HX.out]; simp [G1.out, G2.out, HXJ.out, hi0, GL.out])
              have HF := Lib.hid hfin
              clear hfin
              go_wp2_with fail
              have q1 : IntKind.i64.wrap ((i : Int) - 1) = (i : Int) - 1 := IntWalk.i64_in _ (by omega)
              have q2 : 0 ≤ (i : Int) - 1 := by omega
              have q3 : (i : Int) - 1 < (l.length : Int) := by omega
              have q4 : ((i : Int) - 1).toNat = i - 1 := by omega
              refine wp_region_ext_lit (by kernel_rfl) (by kernel_rfl) ?_
              repeat (go_big_quiet_step ((first | (go_at_call 66; exact Calls.ext_of (HIN.out _ _)) | (go_at_call 120; exact Calls.ext_of (h3 _)))))
              refine wpQuiet_nil ?_
              intro _ hw'
              obtain ⟨u2, hw''⟩ := hw'
              subst hw''
              clear q1 q2 q3 q4
              go_wp2_with fail
              go_ret
              exact ⟨by rw [HF.out]; rfl, (below_trans (ext_below _ _) (ext_below _ _))⟩
            | true =>
              rw [gl] at h3
              have GL := Lib.hid gl
              clear gl
              have hat : prAt l i = true := by rw [prAt, HX.out]; simp [G1.out, G2.out, HXJ.out, GL.out]
              have HAT := Lib.hid hat
              clear hat
              go_wp2_with fail
              have q1 : IntKind.i64.wrap ((i : Int) - 1) = (i : Int) - 1 := IntWalk.i64_in _ (by omega)
              have q2 : 0 ≤ (i : Int) - 1 := by omega
              have q3 : (i : Int) - 1 < (l.length : Int) := by omega
              have q4 : ((i : Int) - 1).toNat = i - 1 := by omega
              refine wp_region_ext_lit (by kernel_rfl) (by kernel_rfl) ?_
              repeat (go_big_quiet_step ((first | (go_at_call 66; exact Calls.ext_of (HIN.out _ _)) | (go_at_call 120; exact Calls.ext_of (h3 _)))))
              refine wpQuiet_nil ?_
              intro _ hw'
              obtain ⟨u2, hw''⟩ := hw'
              subst hw''
              clear q1 q2 q3 q4
              go_wp2_with fail
              go_roundw
              case rel =>
                obtain ⟨z, hz⟩ := hbx u2
                exact ⟨i + 1, z, by omega, by go_num, range_all_succ HA.out HAT.out, hz⟩
              case measure => simp [intOf]; omega
    · obtain rfl : i = l.length := by omega
      have hfin : R = true := by rw [HR.out]; exact HA.out
      have HF := Lib.hid hfin
      clear hfin
      go_wp2_with fail
      go_ret
      exact ⟨by rw [HF.out]; rfl, ext_below _ _⟩

end Go.Proofs.Ytmdgloeejjepmaa

/- MergePairs, in both of the program's halves. -/
namespace Go.Proofs.Ytmdgloeejjepmaa
set_option linter.unusedVariables false
set_option linter.unusedSimpArgs false
open Go.ChangeShapes Go.WideShapes Go.ChangeAt Go.RowKit
attribute [local go_sem] ext_cell ext_frozen ext_lt ext_lt1 ext_lt2 ext_lt3 ltn2 ltn3 ltn13 lts1 lts2 lts3

set_option maxHeartbeats 2000000 in
set_option maxRecDepth 100000 in
theorem specMerge (va vb : Value) (a b : List Pr) (w : World) (hva : SlE w cPr 2 va a) (hvb : SlE w cPr 2 vb b) (hna : a.length ≤ 1048576) (hnb : b.length ≤ 1048576) :
    Calls Try.prog 69 #[va, vb] w fun e w' => ∃ v', e = .returned v' ∧ Own w.heap.size w'.heap.size w' 86 cPr 2 v' (mergeL a b) ∧ Below w.heap.size w w' := by
  have hsa := hva
  have hsb := hvb
  obtain ⟨A, ca, rfl, hla, hma, -⟩ := hva
  obtain ⟨B, cb, rfl, hlb, hmb, -⟩ := hvb
  unfold maxLen at hma hmb
  obtain ⟨R, hR⟩ : ∃ R, R = mergeL a b := ⟨_, rfl⟩
  rw [← hR]
  have HR := Lib.hid hR
  have HSA := Lib.hid hsa
  have HSB := Lib.hid hsb
  clear hR hsa hsb
  go_enter Try.func69, Try.ntmps69
  go_wp2_with fail
  go_loopw [5, 6] (fun oo ii wr => ∃ i : Nat, i ≤ a.length ∧ ii = .int .i64 (i : Int) ∧ SetR w.heap.size wr oo (psetL (a.take i)) ∧ Below w.heap.size w wr) (fun _ ii _ => a.length - (intOf ii).toNat)
  case atStart => exact ⟨0, Nat.zero_le _, rfl, SetR.lit w _ (Nat.le_refl _), (Below.refl _ _).alloc (Nat.le_refl _) _⟩
  case round =>
    obtain ⟨i, hi, rfl, hset, hbel⟩ := hrel
    have HSET := Lib.hid hset
    have hsz := hbel.size
    clear hset
    by_cases hlt : i < a.length
    · have hxi : a[i]? = some a[i] := List.getElem?_eq_getElem hlt
      generalize a[i] = x at hxi
      obtain ⟨b', o, rfl, ⟨-, hb⟩, d0, d1⟩ := HSA.out.prA hxi
      have d0 := kcell hbel d0
      have d1 := kcell hbel d1
      obtain ⟨xa, xb⟩ := x
      simp only at d0 d1
      have hbw : b' < wr.heap.size := by omega
      have hii : (i : Int) < (a.length : Int) := by omega
      have HSN := Lib.hid (show psetL (a.take (i + 1)) = putP (psetL (a.take i)) (xa, xb) from by rw [take_snoc hxi, psetL_snoc])
      have hpl : (psetL (a.take i)).length ≤ 2097152 := Nat.le_trans (psetL_len _) (by simp only [List.length_append, List.length_take]; omega)
      clear hxi
      generalize psetL (a.take i) = L at *
      have HP := Lib.hid (l15Put_any _ w.heap.size L (xa, xb) wr HSET.out hsz (by omega))
      go_wp2_with fail
      refine HP.out.mono ?_
      rintro e w4 ⟨v4, rfl, hs4, hb4⟩
      have HS4 := Lib.hid hs4
      have HB4 := Lib.hid (hbel.trans (hb4.mono hsz))
      clear hs4 hb4
      go_wp2_with fail
      go_roundw
      case rel => exact ⟨i + 1, by omega, by go_num, by rw [HSN.out]; exact HS4.out, HB4.out⟩
      case measure => simp [intOf]; omega
    · obtain rfl : i = a.length := by omega
      rw [List.take_length] at HSET
      go_wp2_with fail
      go_loopw [5, 7] (fun oo ii wr => ∃ i : Nat, i ≤ b.length ∧ ii = .int .i64 (i : Int) ∧ SetR w.heap.size wr oo (psetL (a ++ b.take i)) ∧ Below w.heap.size w wr) (fun _ ii _ => b.length - (intOf ii).toNat)
      case atStart => exact ⟨0, Nat.zero_le _, rfl, by rw [List.take_zero, List.append_nil]; exact HSET.out, hbel⟩
      case round =>
        obtain ⟨i, hi, rfl, hset, hbel⟩ := hrel
        have HSET := Lib.hid hset
        have hsz := hbel.size
        clear hset
        by_cases hlt : i < b.length
        · have hxi : b[i]? = some b[i] := List.getElem?_eq_getElem hlt
          generalize b[i] = x at hxi
          obtain ⟨b', o, rfl, ⟨-, hb⟩, d0, d1⟩ := HSB.out.prA hxi
          have d0 := kcell hbel d0
          have d1 := kcell hbel d1
          obtain ⟨xa, xb⟩ := x
          simp only at d0 d1
          have hbw : b' < wr.heap.size := by omega
          have hii : (i : Int) < (b.length : Int) := by omega
          have HSN := Lib.hid (show psetL (a ++ b.take (i + 1)) = putP (psetL (a ++ b.take i)) (xa, xb) from by rw [take_snoc hxi, ← List.append_assoc, psetL_snoc])
          have hpl : (psetL (a ++ b.take i)).length ≤ 2097152 := Nat.le_trans (psetL_len _) (by simp only [List.length_append, List.length_take]; omega)
          clear hxi
          generalize psetL (a ++ b.take i) = L at *
          have HP := Lib.hid (l15Put_any _ w.heap.size L (xa, xb) wr HSET.out hsz (by omega))
          go_wp2_with fail
          refine HP.out.mono ?_
          rintro e w4 ⟨v4, rfl, hs4, hb4⟩
          have HS4 := Lib.hid hs4
          have HB4 := Lib.hid (hbel.trans (hb4.mono hsz))
          clear hs4 hb4
          go_wp2_with fail
          go_roundw
          case rel => exact ⟨i + 1, by omega, by go_num, by rw [HSN.out]; exact HS4.out, HB4.out⟩
          case measure => simp [intOf]; omega
        · obtain rfl : i = b.length := by omega
          rw [List.take_length] at HSET
          have HO := Lib.hid (show Own w.heap.size wr.heap.size wr 86 cPr 2 _ R from by rw [HR.out]; exact HSET.out.own)
          obtain ⟨g, c', rfl, -⟩ := HSET.out
          go_wp2_with fail
          go_ret
          exact ⟨_, rfl, HO.out, hbel⟩

set_option maxHeartbeats 2000000 in
set_option maxRecDepth 100000 in
theorem implMerge (va vb : Value) (a b : List Pr) (w : World) (hva : SlE w cPr 2 va a) (hvb : SlE w cPr 2 vb b) (hna : a.length ≤ 1048576) (hnb : b.length ≤ 1048576) :
    Calls Try.prog 73 #[va, vb] w fun e w' => ∃ v', e = .returned v' ∧ Own w.heap.size w'.heap.size w' 86 cPr 2 v' (mergeL a b) ∧ Below w.heap.size w w' := by
  have hsa := hva
  have hsb := hvb
  obtain ⟨A, ca, rfl, hla, hma, -⟩ := hva
  obtain ⟨B, cb, rfl, hlb, hmb, -⟩ := hvb
  unfold maxLen at hma hmb
  have hba : Below w.heap.size w (w.alloc (.cells #[] 86)) := (Below.refl _ _).alloc (Nat.le_refl _) _
  have hv1 := SlE.keep hsa hba
  have hrow := World.ownsRow_lit (base := w.heap.size) (e := 86) (size := 2) w #[] 0 (Nat.le_refl _) (by decide) rfl
  obtain ⟨R, hR⟩ : ∃ R, R = mergeL a b := ⟨_, rfl⟩
  rw [← hR]
  have HRS := Lib.hid hR
  have HV := Lib.hid hv1
  have HSB := Lib.hid hsb
  have HR := Lib.hid hrow
  have HBA := Lib.hid hba
  clear hsa hsb hv1 hrow hR hba
  go_enter Try.func73, Try.ntmps73
  go_wp2_with (first | (at_builtin; (refine wpList_appendL cPr elPair cPr_len cPr_one rfl _ _ rfl w.heap.size _ [] a (by rfl) HR.out 0 _ _ (by rfl) HV.out (by simp; omega) (by omega) (by simp) ?_); intro v1 w1 hrow1 hgr1 hat1; simp only [List.nil_append] at hrow1; have hb1 := HBA.out.trans (own_below HR.out (by simp) hgr1); have HR1 := Lib.hid hrow1; have HB1 := Lib.hid hb1; have HV1 := Lib.hid (SlE.keep HSB.out hb1); have hz1 := hb1.size; clear hrow1 hgr1 hat1 hb1) | (at_builtin; (refine wpList_appendL cPr elPair cPr_len cPr_one rfl _ _ rfl w.heap.size _ a b (by rfl) HR1.out 0 _ _ (by rfl) HV1.out (by omega) (by omega) hz1 ?_); intro v2 w2 hrow2 hgr2 hat2))
  have hb2 := HB1.out.trans (own_below HR1.out hz1 hgr2)
  have hz2 := hb2.size
  have hp := pairSet_any v2 (a ++ b) w2 (((Own.of_row (xs := a ++ b) hrow2 rfl rfl).sl cPr_len).all (Nat.le_refl _)) (by simp only [List.length_append]; omega)
  rw [show psetL (a ++ b) = R from HRS.out.symm] at hp
  have HP := Lib.hid hp
  have HB2 := Lib.hid hb2
  clear hp hb2 hrow2 hgr2 hat2
  refine HP.out.mono ?_
  rintro e w5 ⟨v5, rfl, ho5, hb5⟩
  have HO := Lib.hid (ho5.mono hz2 (Nat.le_refl _))
  have HB := Lib.hid (below_trans HB2.out hb5)
  obtain ⟨A9, n9, c9, rfl⟩ := ho5.shape
  clear ho5 hb5
  go_wp2_with fail
  go_ret
  exact ⟨_, rfl, HO.out, HB.out⟩

end Go.Proofs.Ytmdgloeejjepmaa

/- IdentityRelation, the program's and the reference's: the pairs (0,0) to (n-1,n-1); none if n is above 5 or below 1. -/
namespace Go.Proofs.Ytmdgloeejjepmaa
set_option linter.unusedVariables false
set_option linter.unusedSimpArgs false
open Go.ChangeShapes Go.WideShapes Go.ChangeAt Go.RowKit
attribute [local go_sem] ext_cell ext_frozen ext_lt ext_lt1 ext_lt2 ext_lt3 ltn2 ltn3 ltn13 lts1 lts2 lts3

theorem elPr : ElemOk Try.prog 24 86 (.agg #[.int .i64 0, .int .i64 0]) 2 16 := ⟨Try.underlying24, by kernel_rfl, rfl, by omega⟩

def idPairs (n : Nat) : List Pr := (List.range n).map fun (i : Nat) => ((i : Int), (i : Int))
theorem idPairs_succ (n : Nat) : idPairs (n + 1) = idPairs n ++ [((n : Int), (n : Int))] := by simp [idPairs, List.range_succ]
theorem idPairs_len (n : Nat) : (idPairs n).length = n := by simp [idPairs]
def identityOf (n : Int) : List Pr := if 5 < n then [] else idPairs n.toNat

set_option maxHeartbeats 400000 in
theorem implIdentity (n : Int) (w : World) :
    Calls Try.prog 72 #[.int .i64 n] w fun en w' => ∃ v, en = .returned v ∧ Own w.heap.size w'.heap.size w' 86 cPr 2 v (identityOf n) ∧ Below w.heap.size w w' := by
  by_cases h5 : 5 < n
  · go_enter Try.func72, Try.ntmps72
    go_wp2
    go_ret
    exact ⟨_, rfl, by rw [identityOf, if_pos h5]; exact Own.nil _ _ _ _ _ _, Below.refl _ _⟩
  · rw [identityOf, if_neg h5]
    go_enter Try.func72, Try.ntmps72
    go_wp2
    go_loopw [3, 4] (fun out ii wr => ∃ i : Nat, i ≤ n.toNat ∧ ii = .int .i64 i ∧ wr.ownsRow w.heap.size 86 2 out (idPairs i).length ((idPairs i).flatMap cPr) ∧ Below w.heap.size w wr) (fun _ ii _ => n.toNat - (intOf ii).toNat)
    case atStart => exact ⟨0, Nat.zero_le _, rfl, World.ownsRow_lit w #[] 0 (Nat.le_refl _) (by decide) rfl, (Below.refl _ _).alloc (Nat.le_refl _) _⟩
    case round =>
      obtain ⟨i, hi, rfl, hrow, hbel⟩ := hrel
      by_cases hlt : (i : Int) < n
      · have hs := hbel.size
        go_wp2_with (at_builtin; (refine wpList_append1 cPr elPr rfl _ _ rfl w.heap.size u3 (idPairs i) ((i : Int), (i : Int)) _ 1 _ (by rfl) hrow (by rfl) rfl rfl rfl (cPr_one _) (by rw [idPairs_len]; omega) (by omega) hs ?_); rw [← idPairs_succ]; intro v' w1 hrow' hb1 _ _)
        go_roundw
        case rel => exact ⟨i + 1, by omega, by go_num, hrow', hbel.trans hb1⟩
        case measure => simp [intOf]; omega
      · obtain rfl : i = n.toNat := by omega
        go_wp2
        go_ret
        exact ⟨_, rfl, Own.of_row hrow rfl rfl, hbel⟩
set_option maxHeartbeats 400000 in
theorem specIdentity (n : Int) (w : World) :
    Calls Try.prog 68 #[.int .i64 n] w fun en w' => ∃ v, en = .returned v ∧ Own w.heap.size w'.heap.size w' 86 cPr 2 v (identityOf n) ∧ Below w.heap.size w w' := by
  by_cases h5 : 5 < n
  · go_enter Try.func68, Try.ntmps68
    go_wp2
    go_loopw [3, 4] (fun out ii wr => out = .slice (some ⟨w.heap.size, 0, none⟩) 0 0 ∧ ii = .int .i64 0 ∧ wr = w.alloc (.cells #[] 86)) (fun _ _ _ => 0)
    case atStart => exact ⟨rfl, rfl, rfl⟩
    case round =>
      obtain ⟨rfl, rfl, rfl⟩ := hrel
      go_wp2
      all_goals go_ret
      all_goals exact ⟨_, rfl, by rw [identityOf, if_pos h5]; exact Own.of_row (World.ownsRow_lit w #[] 0 (Nat.le_refl _) (by decide) rfl) rfl rfl, (Below.refl _ _).alloc (Nat.le_refl _) _⟩
  · rw [identityOf, if_neg h5]
    go_enter Try.func68, Try.ntmps68
    go_wp2
    go_loopw [3, 4] (fun out ii wr => ∃ i : Nat, i ≤ n.toNat ∧ ii = .int .i64 i ∧ wr.ownsRow w.heap.size 86 2 out (idPairs i).length ((idPairs i).flatMap cPr) ∧ Below w.heap.size w wr) (fun _ ii _ => n.toNat - (intOf ii).toNat)
    case atStart => exact ⟨0, Nat.zero_le _, rfl, World.ownsRow_lit w #[] 0 (Nat.le_refl _) (by decide) rfl, (Below.refl _ _).alloc (Nat.le_refl _) _⟩
    case round =>
      obtain ⟨i, hi, rfl, hrow, hbel⟩ := hrel
      by_cases hlt : (i : Int) < n
      · have hs := hbel.size
        go_wp2_with (at_builtin; refine wpList_append1 cPr elPr rfl _ _ rfl w.heap.size u3 (idPairs i) ((i : Int), (i : Int)) _ 1 _ (by rfl) hrow (by rfl) rfl rfl rfl (cPr_one _) (by rw [idPairs_len]; omega) (by omega) hs ?_; rw [← idPairs_succ]; intro v' w1 hrow' hb1 _ _)
        go_roundw
        case rel => exact ⟨i + 1, by omega, by go_num, hrow', hbel.trans hb1⟩
        case measure => simp [intOf]; omega
      · obtain rfl : i = n.toNat := by omega
        go_wp2
        go_ret
        exact ⟨_, rfl, Own.of_row hrow rfl rfl, hbel⟩
end Go.Proofs.Ytmdgloeejjepmaa

/- ClosureRelation, in both of the program's halves. -/
namespace Go.Proofs.Ytmdgloeejjepmaa
set_option linter.unusedVariables false
set_option linter.unusedSimpArgs false
open Go.ChangeShapes Go.WideShapes Go.ChangeAt Go.RowKit
attribute [local go_sem] ext_cell ext_frozen ext_lt ext_lt1 ext_lt2 ext_lt3 ltn2 ltn3 ltn13 lts1 lts2 lts3

/-- pairs of nodes, rising -/
def sqP (o : List Pr) : Prop := ascP o ∧ ∀ p ∈ o, inB p.1 ∧ inB p.2
def allSq : List Pr := (List.range 5).flatMap fun (i : Nat) => (List.range 5).map fun (j : Nat) => ((i : Int), (j : Int))
theorem sq_len {o : List Pr} (h : sqP o) : o.length ≤ 25 := by
  have h1 : o.Sublist (psetL allSq) := subP h.1 (psetL_asc _) fun x hx => by
    obtain ⟨⟨a0, a4⟩, ⟨b0, b4⟩⟩ := h.2 x hx
    obtain ⟨x1, x2⟩ := x
    simp only at a0 a4 b0 b4
    obtain ⟨a, rfl⟩ := Int.eq_ofNat_of_zero_le a0
    obtain ⟨b, rfl⟩ := Int.eq_ofNat_of_zero_le b0
    exact mem_psetL.2 (List.mem_flatMap.2 ⟨a, List.mem_range.2 (by omega), List.mem_map.2 ⟨b, List.mem_range.2 (by omega), rfl⟩⟩)
  exact Nat.le_trans h1.length_le (Nat.le_trans (psetL_len _) (by decide))
theorem sq_comp {o l : List Pr} (h : sqP o) (hl : ∀ p ∈ l, inB p.1 ∧ inB p.2) : sqP (composeL o l) := ⟨psetL_asc _, fun p hp => by
  rw [composeL, mem_psetL, mem_compL] at hp
  obtain ⟨q, hq, r, hr, -, rfl⟩ := hp
  exact ⟨(h.2 q hq).1, (hl r hr).2⟩⟩
theorem sq_merge {a b : List Pr} (ha : sqP a) (hb : sqP b) : sqP (mergeL a b) := ⟨psetL_asc _, fun p hp => by
  rw [mergeL, mem_psetL, List.mem_append] at hp
  exact hp.elim (ha.2 p) (hb.2 p)⟩
theorem idPairs_asc : ∀ n, ascP (idPairs n)
  | 0 => List.Pairwise.nil
  | n + 1 => by
    rw [idPairs_succ]
    refine List.pairwise_append.2 ⟨idPairs_asc n, List.pairwise_singleton _ _, fun a ha b hb => ?_⟩
    obtain ⟨i, hi, rfl⟩ := List.mem_map.1 ha
    rw [List.mem_singleton] at hb
    subst hb
    have := List.mem_range.1 hi
    exact ltP_iff.2 (.inl (by simp only; omega))
theorem sq_id (n : Int) : sqP (identityOf n) := by
  rw [identityOf]
  split
  · exact ⟨List.Pairwise.nil, by simp⟩
  · refine ⟨idPairs_asc _, fun p hp => ?_⟩
    obtain ⟨i, hi, rfl⟩ := List.mem_map.1 hp
    have := List.mem_range.1 hi
    exact ⟨⟨by simp only; omega, by simp only; omega⟩, ⟨by simp only; omega, by simp only; omega⟩⟩
theorem sq_clos {o l : List Pr} (h : sqP o) (hl : ∀ p ∈ l, inB p.1 ∧ inB p.2) : ∀ k, sqP (closK l o k)
  | 0 => h
  | k + 1 => sq_merge (sq_clos h hl k) (sq_comp (sq_clos h hl k) hl)
def closureL (n : Int) (l : List Pr) : List Pr := if wi n 1 5 && arePL l then closK l (identityOf n) 5 else []
theorem closure_len (n : Int) (l : List Pr) : (closureL n l).length ≤ 25 := by
  rw [closureL]
  split
  · rename_i h
    simp only [Bool.and_eq_true] at h
    exact sq_len (sq_clos (sq_id n) (arePL_in h.2) 5)
  · simp
theorem clos_done {l o : List Pr} (ho : sqP o) (hl : ∀ p ∈ l, inB p.1 ∧ inB p.2) {k : Nat} (h : closStep l (closK l o k) = closK l o k) : closK l o k = closK l o 5 := by
  have h5 := clos_fix (fun p hp => (hl p hp).2) (fun p hp => (ho.2 p hp).2) ho.1 (l := l) (o := o)
  rcases Nat.le_total k 5 with hk | hk
  · have := clos_stay h (5 - k)
    rw [show k + (5 - k) = 5 by omega] at this
    exact this.symm
  · have := clos_stay h5 (k - 5)
    rw [show 5 + (k - 5) = k by omega] at this
    exact this
theorem clos_grows {l o : List Pr} (ho : ascP o) (k : Nat) : (closK l o k).length ≤ (closStep l (closK l o k)).length :=
  (subP (closK_asc ho k) (psetL_asc _) fun _ hx => closK_mono hx).length_le
def lenV : Value → Nat
  | .slice _ n _ => n
  | _ => 0
theorem own_slice {lo hi : Nat} {w : World} {e : TypeId} {v : Value} {xs : List Pr} (h : Own lo hi w e cPr 2 v xs) : ∃ A c, v = .slice A xs.length c := by
  obtain ⟨A, c, rfl, -⟩ := h.sl cPr_len
  exact ⟨A, c, rfl⟩

set_option maxHeartbeats 2000000 in
set_option maxRecDepth 100000 in
theorem specClosure (n : Int) (v : Value) (l : List Pr) (w : World) (hv : SlE w cPr 2 v l) (hn : l.length ≤ 1048576) :
    Calls Try.prog 24 #[.int .i64 n, v] w fun e w' => ∃ v', e = .returned v' ∧ Own w.heap.size w'.heap.size w' 86 cPr 2 v' (closureL n l) ∧ Below w.heap.size w w' := by
  have HSL := Lib.hid hv
  have hin := l1In_any n 1 5 w
  have hare := specAre v l w hv hn
  clear hv
  cases g1 : wi n 1 5 with
  | false =>
    have HE := Lib.hid (show closureL n l = [] by simp [closureL, g1])
    rw [g1] at hin
    have HIN := Lib.hid hin
    clear hin hare g1
    rw [HE.out]
    go_enter Try.func24, Try.ntmps24
    go_wp2_with fail
    refine HIN.out.mono ?_
    rintro e w1 ⟨rfl, rfl⟩
    go_wp2_with fail
    go_ret
    exact ⟨_, rfl, Own.of_row (xs := ([] : List Pr)) (World.ownsRow_lit _ #[] 0 (Nat.le_refl _) (by decide) rfl) rfl rfl, (Below.refl _ _).alloc (Nat.le_refl _) _⟩
  | true =>
    rw [g1] at hin
    cases g2 : arePL l with
    | false =>
      have HE := Lib.hid (show closureL n l = [] by simp [closureL, g2])
      rw [g2] at hare
      have HIN := Lib.hid hin
      have HAR := Lib.hid hare
      clear hin hare g1 g2
      rw [HE.out]
      go_enter Try.func24, Try.ntmps24
      go_wp2_with fail
      refine HIN.out.mono ?_
      rintro e w1 ⟨rfl, rfl⟩
      go_wp2_with fail
      refine HAR.out.mono ?_
      rintro e w2 ⟨rfl, hb2⟩
      go_wp2_with fail
      go_ret
      exact ⟨_, rfl, (Own.of_row (xs := ([] : List Pr)) (World.ownsRow_lit w2 #[] 0 (Nat.le_refl _) (by decide) rfl) rfl rfl).mono hb2.size (Nat.le_refl _), hb2.alloc hb2.size _⟩
    | true =>
      have HL := Lib.hid (arePL_in g2)
      have HE := Lib.hid (show closureL n l = closK l (identityOf n) 5 by simp [closureL, g1, g2])
      rw [g2] at hare
      have HIN := Lib.hid hin
      have HAR := Lib.hid hare
      have HSQ := Lib.hid (sq_id n)
      have HID := Lib.hid (specIdentity n)
      clear hin hare g1 g2
      generalize closureL n l = R at *
      generalize identityOf n = o at *
      go_enter Try.func24, Try.ntmps24
      go_wp2_with fail
      refine HIN.out.mono ?_
      rintro e w1 ⟨rfl, rfl⟩
      go_wp2_with fail
      refine HAR.out.mono ?_
      rintro e w2 ⟨rfl, hb2⟩
      go_wp2_with fail
      refine (HID.out w2).mono ?_
      rintro e w3 ⟨v3, rfl, ho3, hb3⟩
      have HO3 := Lib.hid (ho3.mono hb2.size (Nat.le_refl _))
      have hb3' := below_trans hb2 hb3
      clear ho3 hb3 hb2
      go_wp2_with fail
      go_loopw [5, 6] (fun oo ii wr => ∃ k : Nat, k ≤ 5 ∧ ii = .int .i64 (k : Int) ∧ Own w1.heap.size wr.heap.size wr 86 cPr 2 oo (closK l o k) ∧ Below w1.heap.size w1 wr) (fun _ ii _ => 5 - (intOf ii).toNat)
      case atStart => exact ⟨0, by omega, rfl, HO3.out, hb3'⟩
      case round =>
        obtain ⟨k, hk, rfl, hown, hbel⟩ := hrel
        have hsz := hbel.size
        by_cases hlt : k < 5
        · have hq := sq_clos HSQ.out HL.out k
          have hql := sq_len hq
          have hcl := sq_len (sq_comp hq HL.out)
          have hkk : (k : Int) < 5 := by omega
          have HST := Lib.hid (show closK l o (k + 1) = mergeL (closK l o k) (composeL (closK l o k) l) from rfl)
          generalize closK l o k = C at *
          have HC := Lib.hid (specCompose _ v C l wr ((hown.sl cPr_len).all (Nat.le_refl _)) (SlE.keep HSL.out hbel) (by omega) hn)
          have HOWN := Lib.hid hown
          clear hown hq
          go_wp2_with fail
          refine HC.out.mono ?_
          rintro e w4 ⟨v4, rfl, ho4, hb4⟩
          have hz4 := hb4.size
          have HM := Lib.hid (specMerge _ v4 C (composeL C l) w4 (SlE.keep ((HOWN.out.sl cPr_len).all (Nat.le_refl _)) hb4) ((ho4.sl cPr_len).all (Nat.le_refl _)) (by omega) (by omega))
          have HB4 := Lib.hid (below_trans hbel hb4)
          clear ho4 hb4
          go_wp2_with fail
          refine HM.out.mono ?_
          rintro e w5 ⟨v5, rfl, ho5, hb5⟩
          have HO5 := Lib.hid (ho5.mono (Nat.le_trans hsz hz4) (Nat.le_refl _))
          have HB5 := Lib.hid (below_trans HB4.out hb5)
          clear ho5 hb5
          go_wp2_with fail
          go_roundw
          case rel => exact ⟨k + 1, by omega, by go_num, by rw [HST.out]; exact HO5.out, HB5.out⟩
          case measure => simp [intOf]; omega
        · obtain rfl : k = 5 := by omega
          rw [← HE.out] at hown
          have HO := Lib.hid hown
          obtain ⟨A9, n9, c9, rfl⟩ := hown.shape
          clear hown
          go_wp2_with fail
          go_ret
          exact ⟨_, rfl, HO.out, hbel⟩

set_option maxHeartbeats 2000000 in
set_option maxRecDepth 100000 in
theorem implClosure (n : Int) (v : Value) (l : List Pr) (w : World) (hv : SlE w cPr 2 v l) (hn : l.length ≤ 1048576) :
    Calls Try.prog 25 #[.int .i64 n, v] w fun e w' => ∃ v', e = .returned v' ∧ Own w.heap.size w'.heap.size w' 86 cPr 2 v' (closureL n l) ∧ Below w.heap.size w w' := by
  have HSL := Lib.hid hv
  have hin := within_any n 1 5 w
  have hare := implAre v l w hv hn
  clear hv
  cases g1 : wi n 1 5 with
  | false =>
    have HE := Lib.hid (show closureL n l = [] by simp [closureL, g1])
    rw [g1] at hin
    have HIN := Lib.hid hin
    clear hin hare g1
    rw [HE.out]
    go_enter Try.func25, Try.ntmps25
    go_wp2_with fail
    refine HIN.out.mono ?_
    rintro e w1 ⟨rfl, rfl⟩
    go_wp2_with fail
    go_ret
    exact ⟨_, rfl, Own.nil _ _ _ _ _ _, Below.refl _ _⟩
  | true =>
    rw [g1] at hin
    cases g2 : arePL l with
    | false =>
      have HE := Lib.hid (show closureL n l = [] by simp [closureL, g2])
      rw [g2] at hare
      have HIN := Lib.hid hin
      have HAR := Lib.hid hare
      clear hin hare g1 g2
      rw [HE.out]
      go_enter Try.func25, Try.ntmps25
      go_wp2_with fail
      refine HIN.out.mono ?_
      rintro e w1 ⟨rfl, rfl⟩
      go_wp2_with fail
      refine HAR.out.mono ?_
      rintro e w2 ⟨rfl, hb2⟩
      go_wp2_with fail
      go_ret
      exact ⟨_, rfl, Own.nil _ _ _ _ _ _, hb2⟩
    | true =>
      have HL := Lib.hid (arePL_in g2)
      have HE := Lib.hid (show closureL n l = closK l (identityOf n) 5 by simp [closureL, g1, g2])
      rw [g2] at hare
      have HIN := Lib.hid hin
      have HAR := Lib.hid hare
      have HSQ := Lib.hid (sq_id n)
      have HID := Lib.hid (implIdentity n)
      clear hin hare g1 g2
      generalize closureL n l = R at *
      generalize identityOf n = o at *
      go_enter Try.func25, Try.ntmps25
      go_wp2_with fail
      refine HIN.out.mono ?_
      rintro e w1 ⟨rfl, rfl⟩
      go_wp2_with fail
      refine HAR.out.mono ?_
      rintro e w2 ⟨rfl, hb2⟩
      go_wp2_with fail
      refine (HID.out w2).mono ?_
      rintro e w3 ⟨v3, rfl, ho3, hb3⟩
      have HO3 := Lib.hid (ho3.mono hb2.size (Nat.le_refl _))
      have hb3' := below_trans hb2 hb3
      clear ho3 hb3 hb2
      go_wp2_with fail
      go_loopw [5] (fun oo wr => ∃ k : Nat, Own w1.heap.size wr.heap.size wr 86 cPr 2 oo (closK l o k) ∧ Below w1.heap.size w1 wr) (fun oo _ => 25 - lenV oo)
      case atStart => exact ⟨0, HO3.out, hb3'⟩
      case round =>
        obtain ⟨k, hown, hbel⟩ := hrel
        have hsz := hbel.size
        have hq := sq_clos HSQ.out HL.out k
        have hql := sq_len hq
        have hcl := sq_len (sq_comp hq HL.out)
        have hml := sq_len (sq_clos HSQ.out HL.out (k + 1))
        have hgr := clos_grows (l := l) HSQ.out.1 k
        have HST := Lib.hid (show closK l o (k + 1) = mergeL (closK l o k) (composeL (closK l o k) l) from rfl)
        have HDN := Lib.hid (fun h => (clos_done HSQ.out HL.out (clos_len HSQ.out.1 h)).trans HE.out.symm : (closStep l (closK l o k)).length = (closK l o k).length → closK l o k = R)
        rw [show closStep l (closK l o k) = closK l o (k + 1) from rfl] at hgr HDN
        generalize hC1 : closK l o (k + 1) = C1 at *
        have HC1 := Lib.hid hC1
        clear hC1
        generalize closK l o k = C at *
        obtain ⟨A1, c1, rfl⟩ := own_slice hown
        have HC := Lib.hid (implCompose _ v C l wr ((hown.sl cPr_len).all (Nat.le_refl _)) (SlE.keep HSL.out hbel) (by omega) hn)
        have HOWN := Lib.hid hown
        clear hown hq
        go_wp2_with fail
        refine HC.out.mono ?_
        rintro e w4 ⟨v4, rfl, ho4, hb4⟩
        have hz4 := hb4.size
        have hm := implMerge _ v4 C (composeL C l) w4 (SlE.keep ((HOWN.out.sl cPr_len).all (Nat.le_refl _)) hb4) ((ho4.sl cPr_len).all (Nat.le_refl _)) (by omega) (by omega)
        rw [← HST.out] at hm
        have HM := Lib.hid hm
        have HB4 := Lib.hid (below_trans hbel hb4)
        have HOW4 := Lib.hid (HOWN.out.below hb4 (Nat.le_refl _))
        clear ho4 hb4 hm
        go_wp2_with fail
        refine HM.out.mono ?_
        rintro e w5 ⟨v5, rfl, ho5, hb5⟩
        have hz5 := hb5.size
        obtain ⟨A5, c5, rfl⟩ := own_slice ho5
        have HO5 := Lib.hid (ho5.mono (Nat.le_trans hsz hz4) (Nat.le_refl _))
        have HOW5 := Lib.hid ((HOW4.out.below hb5 hz4).mono (Nat.le_refl _) (Nat.le_trans hz4 hz5))
        have HB5 := Lib.hid (below_trans HB4.out hb5)
        clear ho5 hb5
        by_cases hlen : C1.length = C.length
        · have hli : (C1.length : Int) = (C.length : Int) := by omega
          have HRE := Lib.hid (HDN.out hlen)
          go_wp2_with fail
          go_ret
          exact ⟨_, rfl, by rw [← HRE.out]; exact HOW5.out, HB5.out⟩
        · have hli : ¬ (C1.length : Int) = (C.length : Int) := by omega
          go_wp2_with fail
          go_roundw
          case rel => exact ⟨k + 1, by rw [HC1.out]; exact HO5.out, HB5.out⟩
          case measure => simp only [lenV]; omega

end Go.Proofs.Ytmdgloeejjepmaa

