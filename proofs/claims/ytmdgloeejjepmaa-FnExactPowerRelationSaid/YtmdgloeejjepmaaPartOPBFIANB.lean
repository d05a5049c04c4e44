/- Parts of the proof, joined into one text: Powr. -/
import Derived.Test.YtmdgloeejjepmaaPartMHELFEDG
/- PowerRelation, in both of the program's halves. -/
namespace Go.Proofs.Ytmdgloeejjepmaa
set_option linter.unusedVariables false
set_option linter.unusedSimpArgs false
open Go.ChangeShapes Go.WideShapes Go.ChangeAt Go.RowKit
attribute [local go_sem] ext_cell ext_frozen ext_lt ext_lt1 ext_lt2 ext_lt3 ltn2 ltn3 ltn13 lts1 lts2 lts3

def powX (l o : List Pr) : Nat → List Pr
  | 0 => o
  | k + 1 => composeL (powX l o k) l
def powO (l o : List Pr) (lo : Int) : Nat → List Pr
  | 0 => []
  | k + 1 => if lo ≤ (k : Int) then mergeL (powO l o lo k) (powX l o k) else powO l o lo k
theorem sq_powX {o l : List Pr} (h : sqP o) (hl : ∀ p ∈ l, inB p.1 ∧ inB p.2) : ∀ k, sqP (powX l o k)
  | 0 => h
  | k + 1 => sq_comp (sq_powX h hl k) hl
theorem sq_powO {o l : List Pr} (h : sqP o) (hl : ∀ p ∈ l, inB p.1 ∧ inB p.2) (lo : Int) : ∀ k, sqP (powO l o lo k)
  | 0 => ⟨List.Pairwise.nil, by simp [powO]⟩
  | k + 1 => by
    rw [powO]
    split
    · exact sq_merge (sq_powO h hl lo k) (sq_powX h hl k)
    · exact sq_powO h hl lo k
def powerL (n : Int) (l : List Pr) (lo hi : Int) : List Pr := if wi n 1 5 && arePL l && wi hi 0 3 && decide (0 ≤ lo) then powO l (identityOf n) lo (hi.toNat + 1) else []
theorem power_len (n : Int) (l : List Pr) (lo hi : Int) : (powerL n l lo hi).length ≤ 25 := by
  rw [powerL]
  split
  · rename_i h
    simp only [Bool.and_eq_true] at h
    exact sq_len (sq_powO (sq_id n) (arePL_in h.1.1.2) lo _)
  · simp
theorem own_step {lo : Nat} {w w' : World} {e : TypeId} {v : Value} {xs : List Pr} (h : Own lo w.heap.size w e cPr 2 v xs) (hb : Below w.heap.size w w') : Own lo w'.heap.size w' e cPr 2 v xs :=
  (h.below hb (Nat.le_refl _)).mono (Nat.le_refl _) hb.size

set_option maxHeartbeats 4000000 in
set_option maxRecDepth 100000 in
theorem specPower (n : Int) (v : Value) (l : List Pr) (lo hi : Int) (w : World) (hv : SlE w cPr 2 v l) (hn : l.length ≤ 1048576) :
    Calls Try.prog 26 #[.int .i64 n, v, .int .i64 lo, .int .i64 hi] w fun e w' => ∃ v', e = .returned v' ∧ Own w.heap.size w'.heap.size w' 86 cPr 2 v' (powerL n l lo hi) ∧ Below w.heap.size w w' := by
  have HSL := Lib.hid hv
  have hin : ∀ w : World, _ := fun w => l1In_any n 1 5 w
  have hih : ∀ w : World, _ := fun w => l1In_any hi 0 3 w
  have hare : ∀ w : World, SlE w cPr 2 v l → _ := fun w h => specAre v l w h hn
  have hb0 : Below w.heap.size w (w.alloc (.cells #[] 86)) := (Below.refl _ _).alloc (Nat.le_refl _) _
  have HO0 := Lib.hid (Own.of_row (E := cPr) (xs := ([] : List Pr)) (World.ownsRow_lit (base := w.heap.size) (e := 86) (size := 2) w #[] 0 (Nat.le_refl _) (by decide) rfl) rfl rfl)
  clear hv
  cases g1 : wi n 1 5 with
  | false =>
    have HE := Lib.hid (show powerL n l lo hi = [] by simp [powerL, g1])
    simp only [g1] at hin
    have HIN := Lib.hid hin
    clear hin hih hare g1
    rw [HE.out]
    go_enter Try.func26, Try.ntmps26
    go_wp2_with fail
    refine (HIN.out _).mono ?_
    rintro e w1 ⟨rfl, hw1⟩
    rw [hw1]
    clear hw1 w1
    go_wp2_with fail
    go_ret
    exact ⟨_, rfl, HO0.out, hb0⟩
  | true =>
    simp only [g1] at hin
    cases g2 : arePL l with
    | false =>
      have HE := Lib.hid (show powerL n l lo hi = [] by simp [powerL, g2])
      simp only [g2] at hare
      have HIN := Lib.hid hin
      have HAR := Lib.hid hare
      clear hin hih hare g1 g2
      rw [HE.out]
      go_enter Try.func26, Try.ntmps26
      go_wp2_with fail
      refine (HIN.out _).mono ?_
      rintro e w1 ⟨rfl, hw1⟩
      rw [hw1]
      clear hw1 w1
      go_wp2_with fail
      refine (HAR.out _ (SlE.keep HSL.out hb0)).mono ?_
      rintro e w2 ⟨rfl, hb2⟩
      have HO2 := Lib.hid (own_step HO0.out hb2)
      have hb := below_trans hb0 hb2
      clear hb2
      go_wp2_with fail
      go_ret
      exact ⟨_, rfl, HO2.out, hb⟩
    | true =>
      simp only [g2] at hare
      cases g3 : wi hi 0 3 with
      | false =>
        have HE := Lib.hid (show powerL n l lo hi = [] by simp [powerL, g3])
        simp only [g3] at hih
        have HIN := Lib.hid hin
        have HAR := Lib.hid hare
        have HIH := Lib.hid hih
        clear hin hih hare g1 g2 g3
        rw [HE.out]
        go_enter Try.func26, Try.ntmps26
        go_wp2_with fail
        refine (HIN.out _).mono ?_
        rintro e w1 ⟨rfl, hw1⟩
        rw [hw1]
        clear hw1 w1
        go_wp2_with fail
        refine (HAR.out _ (SlE.keep HSL.out hb0)).mono ?_
        rintro e w2 ⟨rfl, hb2⟩
        have HO2 := Lib.hid (own_step HO0.out hb2)
        have hb := below_trans hb0 hb2
        clear hb2
        go_wp2_with fail
        refine (HIH.out _).mono ?_
        rintro e w1 ⟨rfl, hw1⟩
        rw [hw1]
        clear hw1 w1
        go_wp2_with fail
        go_ret
        exact ⟨_, rfl, HO2.out, hb⟩
      | true =>
        simp only [g3] at hih
        by_cases g4 : lo < 0
        · have HE := Lib.hid (show powerL n l lo hi = [] by (have : ¬ 0 ≤ lo := (by omega)); simp [powerL, this])
          have HIN := Lib.hid hin
          have HAR := Lib.hid hare
          have HIH := Lib.hid hih
          clear hin hih hare g1 g2
          rw [HE.out]
          go_enter Try.func26, Try.ntmps26
          go_wp2_with fail
          refine (HIN.out _).mono ?_
          rintro e w1 ⟨rfl, hw1⟩
          rw [hw1]
          clear hw1 w1
          go_wp2_with fail
          refine (HAR.out _ (SlE.keep HSL.out hb0)).mono ?_
          rintro e w2 ⟨rfl, hb2⟩
          have HO2 := Lib.hid (own_step HO0.out hb2)
          have hb := below_trans hb0 hb2
          clear hb2
          go_wp2_with fail
          refine (HIH.out _).mono ?_
          rintro e w1 ⟨rfl, hw1⟩
          rw [hw1]
          clear hw1 w1
          go_wp2_with fail
          go_ret
          exact ⟨_, rfl, HO2.out, hb⟩
        · have g4d : decide (lo < 0) = false := by simpa using g4
          have HL := Lib.hid (arePL_in g2)
          have HE := Lib.hid (show powerL n l lo hi = powO l (identityOf n) lo (hi.toNat + 1) by (have : 0 ≤ lo := (by omega)); simp [powerL, g1, g2, g3, this])
          obtain ⟨g30, g31⟩ := wi_iff.1 g3
          have HIN := Lib.hid hin
          have HAR := Lib.hid hare
          have HIH := Lib.hid hih
          have HSQ := Lib.hid (sq_id n)
          have HID := Lib.hid (specIdentity n)
          clear hin hare hih g1 g2 g3
          generalize powerL n l lo hi = R at *
          generalize identityOf n = o at *
          obtain ⟨h, rfl⟩ := Int.eq_ofNat_of_zero_le g30
          rw [Int.toNat_natCast] at HE
          have hh3 : h ≤ 3 := by omega
          clear g30 g31
          go_enter Try.func26, Try.ntmps26
          go_wp2_with fail
          refine (HIN.out _).mono ?_
          rintro e w1 ⟨rfl, hw1⟩
          rw [hw1]
          clear hw1 w1
          go_wp2_with fail
          refine (HAR.out _ (SlE.keep HSL.out hb0)).mono ?_
          rintro e w2 ⟨rfl, hb2⟩
          have HO2 := Lib.hid (own_step HO0.out hb2)
          have hb := below_trans hb0 hb2
          clear hb2
          go_wp2_with fail
          refine (HIH.out _).mono ?_
          rintro e w1 ⟨rfl, hw1⟩
          rw [hw1]
          clear hw1 w1
          go_wp2_with fail
          have hzz := hb.size
          refine (HID.out _).mono ?_
          rintro e w3 ⟨v3, rfl, ho3, hb3⟩
          have HX3 := Lib.hid (ho3.mono hzz (Nat.le_refl _))
          have HO3 := Lib.hid (own_step HO2.out hb3)
          have hb3' := below_trans hb hb3
          clear ho3 hb3 hzz hb
          go_wp2_with fail
          go_loopw [9, 10, 11] (fun oo xx ii wr => ∃ k : Nat, k ≤ h + 1 ∧ ii = .int .i64 (k : Int) ∧ Own w.heap.size wr.heap.size wr 86 cPr 2 oo (powO l o lo k) ∧ Own w.heap.size wr.heap.size wr 86 cPr 2 xx (powX l o k) ∧ Below w.heap.size w wr) (fun _ _ ii _ => h + 1 - (intOf ii).toNat)
          case atStart => exact ⟨0, by omega, rfl, HO3.out, HX3.out, hb3'⟩
          case round =>
            obtain ⟨k, hk, rfl, hown, hox, hbel⟩ := hrel
            have hsz := hbel.size
            by_cases hlt : k ≤ h
            · have hq := sq_powX HSQ.out HL.out k
              have hql := sq_len hq
              have hpl := sq_len (sq_powO HSQ.out HL.out lo k)
              have hkk : (k : Int) ≤ (h : Int) := by omega
              have HSX := Lib.hid (show powX l o (k + 1) = composeL (powX l o k) l from rfl)
              have HOWN := Lib.hid hown
              have HOX := Lib.hid hox
              clear hown hox hq
              by_cases hlo : lo ≤ (k : Int)
              · have HSO := Lib.hid (show powO l o lo (k + 1) = mergeL (powO l o lo k) (powX l o k) from if_pos hlo)
                generalize powO l o lo k = C at *
                generalize powX l o k = X at *
                have HM := Lib.hid (specMerge _ _ C X wr ((HOWN.out.sl cPr_len).all (Nat.le_refl _)) ((HOX.out.sl cPr_len).all (Nat.le_refl _)) (by omega) (by omega))
                go_wp2_with fail
                refine HM.out.mono ?_
                rintro e w4 ⟨v4, rfl, ho4, hb4⟩
                have HO4 := Lib.hid (ho4.mono hsz (Nat.le_refl _))
                have HOX4 := Lib.hid (own_step HOX.out hb4)
                have hbel4 := below_trans hbel hb4
                have hsz4 := hbel4.size
                clear ho4 hb4 HM
                have HC := Lib.hid (specCompose _ v X l w4 ((HOX4.out.sl cPr_len).all (Nat.le_refl _)) (SlE.keep HSL.out hbel4) (by omega) hn)
                go_wp2_with fail
                refine HC.out.mono ?_
                rintro e w5 ⟨v5, rfl, ho5, hb5⟩
                have HX5 := Lib.hid (ho5.mono hsz4 (Nat.le_refl _))
                have HO5 := Lib.hid (own_step HO4.out hb5)
                have HB5 := Lib.hid (below_trans hbel4 hb5)
                clear ho5 hb5
                go_wp2_with fail
                go_roundw
                case rel => exact ⟨k + 1, by omega, by go_num, by rw [HSO.out]; exact HO5.out, by rw [HSX.out]; exact HX5.out, HB5.out⟩
                case measure => simp [intOf]; omega
              · have HSO := Lib.hid (show powO l o lo (k + 1) = powO l o lo k from if_neg hlo)
                generalize powO l o lo k = C at *
                generalize powX l o k = X at *
                have HC := Lib.hid (specCompose _ v X l wr ((HOX.out.sl cPr_len).all (Nat.le_refl _)) (SlE.keep HSL.out hbel) (by omega) hn)
                go_wp2_with fail
                refine HC.out.mono ?_
                rintro e w5 ⟨v5, rfl, ho5, hb5⟩
                have HX5 := Lib.hid (ho5.mono hsz (Nat.le_refl _))
                have HO5 := Lib.hid (own_step HOWN.out hb5)
                have HB5 := Lib.hid (below_trans hbel hb5)
                clear ho5 hb5
                go_wp2_with fail
                go_roundw
                case rel => exact ⟨k + 1, by omega, by go_num, by rw [HSO.out]; exact HO5.out, by rw [HSX.out]; exact HX5.out, HB5.out⟩
                case measure => simp [intOf]; omega
            · obtain rfl : k = h + 1 := by omega
              rw [← HE.out] at hown
              have HO := Lib.hid hown
              obtain ⟨A9, n9, c9, rfl⟩ := hown.shape
              clear hown hox
              have hkk : ¬ ((h + 1 : Nat) : Int) ≤ (h : Int) := by omega
              go_wp2_with fail
              go_ret
              exact ⟨_, rfl, HO.out, hbel⟩

set_option maxHeartbeats 4000000 in
set_option maxRecDepth 100000 in
theorem implPower (n : Int) (v : Value) (l : List Pr) (lo hi : Int) (w : World) (hv : SlE w cPr 2 v l) (hn : l.length ≤ 1048576) :
    Calls Try.prog 27 #[.int .i64 n, v, .int .i64 lo, .int .i64 hi] w fun e w' => ∃ v', e = .returned v' ∧ Own w.heap.size w'.heap.size w' 86 cPr 2 v' (powerL n l lo hi) ∧ Below w.heap.size w w' := by
  have HSL := Lib.hid hv
  have hin : ∀ w : World, _ := fun w => within_any n 1 5 w
  have hih : ∀ w : World, _ := fun w => within_any hi 0 3 w
  have hare : ∀ w : World, SlE w cPr 2 v l → _ := fun w h => implAre v l w h hn
  have hb0 : Below w.heap.size w w := Below.refl _ _
  clear hv
  cases g1 : wi n 1 5 with
  | false =>
    have HE := Lib.hid (show powerL n l lo hi = [] by simp [powerL, g1])
    simp only [g1] at hin
    have HIN := Lib.hid hin
    clear hin hih hare g1
    rw [HE.out]
    go_enter Try.func27, Try.ntmps27
    go_wp2_with fail
    refine (HIN.out _).mono ?_
    rintro e w1 ⟨rfl, hw1⟩
    rw [hw1]
    clear hw1 w1
    go_wp2_with fail
    go_ret
    exact ⟨_, rfl, Own.nil _ _ _ _ _ _, hb0⟩
  | true =>
    simp only [g1] at hin
    cases g2 : arePL l with
    | false =>
      have HE := Lib.hid (show powerL n l lo hi = [] by simp [powerL, g2])
      simp only [g2] at hare
      have HIN := Lib.hid hin
      have HAR := Lib.hid hare
      clear hin hih hare g1 g2
      rw [HE.out]
      go_enter Try.func27, Try.ntmps27
      go_wp2_with fail
      refine (HIN.out _).mono ?_
      rintro e w1 ⟨rfl, hw1⟩
      rw [hw1]
      clear hw1 w1
      go_wp2_with fail
      refine (HAR.out _ (SlE.keep HSL.out hb0)).mono ?_
      rintro e w2 ⟨rfl, hb2⟩
      have hb := below_trans hb0 hb2
      clear hb2
      go_wp2_with fail
      go_ret
      exact ⟨_, rfl, Own.nil _ _ _ _ _ _, hb⟩
    | true =>
      simp only [g2] at hare
      by_cases g4 : lo < 0
      · have HE := Lib.hid (show powerL n l lo hi = [] by (have : ¬ 0 ≤ lo := (by omega)); simp [powerL, this])
        have HIN := Lib.hid hin
        have HAR := Lib.hid hare
        have HIH := Lib.hid hih
        clear hin hih hare g1 g2
        rw [HE.out]
        go_enter Try.func27, Try.ntmps27
        go_wp2_with fail
        refine (HIN.out _).mono ?_
        rintro e w1 ⟨rfl, hw1⟩
        rw [hw1]
        clear hw1 w1
        go_wp2_with fail
        refine (HAR.out _ (SlE.keep HSL.out hb0)).mono ?_
        rintro e w2 ⟨rfl, hb2⟩
        have hb := below_trans hb0 hb2
        clear hb2
        go_wp2_with fail
        go_ret
        exact ⟨_, rfl, Own.nil _ _ _ _ _ _, hb⟩
      · have g4d : decide (lo < 0) = false := by simpa using g4
        cases g3 : wi hi 0 3 with
        | false =>
          have HE := Lib.hid (show powerL n l lo hi = [] by simp [powerL, g3])
          simp only [g3] at hih
          have HIN := Lib.hid hin
          have HAR := Lib.hid hare
          have HIH := Lib.hid hih
          clear hin hih hare g1 g2 g3
          rw [HE.out]
          go_enter Try.func27, Try.ntmps27
          go_wp2_with fail
          refine (HIN.out _).mono ?_
          rintro e w1 ⟨rfl, hw1⟩
          rw [hw1]
          clear hw1 w1
          go_wp2_with fail
          refine (HAR.out _ (SlE.keep HSL.out hb0)).mono ?_
          rintro e w2 ⟨rfl, hb2⟩
          have hb := below_trans hb0 hb2
          clear hb2
          go_wp2_with fail
          refine (HIH.out _).mono ?_
          rintro e w1 ⟨rfl, hw1⟩
          rw [hw1]
          clear hw1 w1
          go_wp2_with fail
          go_ret
          exact ⟨_, rfl, Own.nil _ _ _ _ _ _, hb⟩
        | true =>
          simp only [g3] at hih
          have HL := Lib.hid (arePL_in g2)
          have HE := Lib.hid (show powerL n l lo hi = powO l (identityOf n) lo (hi.toNat + 1) by (have : 0 ≤ lo := (by omega)); simp [powerL, g1, g2, g3, this])
          obtain ⟨g30, g31⟩ := wi_iff.1 g3
          have HIN := Lib.hid hin
          have HAR := Lib.hid hare
          have HIH := Lib.hid hih
          have HSQ := Lib.hid (sq_id n)
          have HID := Lib.hid (implIdentity n)
          clear hin hare hih g1 g2 g3
          generalize powerL n l lo hi = R at *
          generalize identityOf n = o at *
          obtain ⟨h, rfl⟩ := Int.eq_ofNat_of_zero_le g30
          rw [Int.toNat_natCast] at HE
          have hh3 : h ≤ 3 := by omega
          clear g30 g31
          go_enter Try.func27, Try.ntmps27
          go_wp2_with fail
          refine (HIN.out _).mono ?_
          rintro e w1 ⟨rfl, hw1⟩
          rw [hw1]
          clear hw1 w1
          go_wp2_with fail
          refine (HAR.out _ (SlE.keep HSL.out hb0)).mono ?_
          rintro e w2 ⟨rfl, hb2⟩
          have hb := below_trans hb0 hb2
          clear hb2
          go_wp2_with fail
          refine (HIH.out _).mono ?_
          rintro e w1 ⟨rfl, hw1⟩
          rw [hw1]
          clear hw1 w1
          go_wp2_with fail
          have HO2 := Lib.hid ((Own.of_row (E := cPr) (xs := ([] : List Pr)) (World.ownsRow_lit (base := w2.heap.size) (e := 86) (size := 2) w2 #[] 0 (Nat.le_refl _) (by decide) rfl) rfl rfl).mono hb.size (Nat.le_refl _))
          replace hb := hb.alloc hb.size (.cells #[] 86)
          have hzz := hb.size
          refine (HID.out _).mono ?_
          rintro e w3 ⟨v3, rfl, ho3, hb3⟩
          have HX3 := Lib.hid (ho3.mono hzz (Nat.le_refl _))
          have HO3 := Lib.hid (own_step HO2.out hb3)
          have hb3' := below_trans hb hb3
          clear ho3 hb3 hzz hb
          go_wp2_with fail
          go_loopw [9, 10, 11] (fun oo xx ii wr => ∃ k : Nat, k ≤ h + 1 ∧ ii = .int .i64 (k : Int) ∧ Own w.heap.size wr.heap.size wr 86 cPr 2 oo (powO l o lo k) ∧ Own w.heap.size wr.heap.size wr 86 cPr 2 xx (powX l o k) ∧ Below w.heap.size w wr) (fun _ _ ii _ => h + 1 - (intOf ii).toNat)
          case atStart => exact ⟨0, by omega, rfl, HO3.out, HX3.out, hb3'⟩
          case round =>
            obtain ⟨k, hk, rfl, hown, hox, hbel⟩ := hrel
            have hsz := hbel.size
            by_cases hlt : k ≤ h
            · have hq := sq_powX HSQ.out HL.out k
              have hql := sq_len hq
              have hpl := sq_len (sq_powO HSQ.out HL.out lo k)
              have hkk : (k : Int) ≤ (h : Int) := by omega
              have HSX := Lib.hid (show powX l o (k + 1) = composeL (powX l o k) l from rfl)
              have HOWN := Lib.hid hown
              have HOX := Lib.hid hox
              clear hown hox hq
              by_cases hlo : lo ≤ (k : Int)
              · have HSO := Lib.hid (show powO l o lo (k + 1) = mergeL (powO l o lo k) (powX l o k) from if_pos hlo)
                generalize powO l o lo k = C at *
                generalize powX l o k = X at *
                have HM := Lib.hid (implMerge _ _ C X wr ((HOWN.out.sl cPr_len).all (Nat.le_refl _)) ((HOX.out.sl cPr_len).all (Nat.le_refl _)) (by omega) (by omega))
                go_wp2_with fail
                refine HM.out.mono ?_
                rintro e w4 ⟨v4, rfl, ho4, hb4⟩
                have HO4 := Lib.hid (ho4.mono hsz (Nat.le_refl _))
                have HOX4 := Lib.hid (own_step HOX.out hb4)
                have hbel4 := below_trans hbel hb4
                have hsz4 := hbel4.size
                clear ho4 hb4 HM
                have HC := Lib.hid (implCompose _ v X l w4 ((HOX4.out.sl cPr_len).all (Nat.le_refl _)) (SlE.keep HSL.out hbel4) (by omega) hn)
                go_wp2_with fail
                refine HC.out.mono ?_
                rintro e w5 ⟨v5, rfl, ho5, hb5⟩
                have HX5 := Lib.hid (ho5.mono hsz4 (Nat.le_refl _))
                have HO5 := Lib.hid (own_step HO4.out hb5)
                have HB5 := Lib.hid (below_trans hbel4 hb5)
                clear ho5 hb5
                go_wp2_with fail
                go_roundw
                case rel => exact ⟨k + 1, by omega, by go_num, by rw [HSO.out]; exact HO5.out, by rw [HSX.out]; exact HX5.out, HB5.out⟩
                case measure => simp [intOf]; omega
              · have HSO := Lib.hid (show powO l o lo (k + 1) = powO l o lo k from if_neg hlo)
                generalize powO l o lo k = C at *
                generalize powX l o k = X at *
                have HC := Lib.hid (implCompose _ v X l wr ((HOX.out.sl cPr_len).all (Nat.le_refl _)) (SlE.keep HSL.out hbel) (by omega) hn)
                go_wp2_with fail
                refine HC.out.mono ?_
                rintro e w5 ⟨v5, rfl, ho5, hb5⟩
                have HX5 := Lib.hid (ho5.mono hsz (Nat.le_refl _))
                have HO5 := Lib.hid (own_step HOWN.out hb5)
                have HB5 := Lib.hid (below_trans hbel hb5)
                clear ho5 hb5
                go_wp2_with fail
                go_roundw
                case rel => exact ⟨k + 1, by omega, by go_num, by rw [HSO.out]; exact HO5.out, by rw [HSX.out]; exact HX5.out, HB5.out⟩
                case measure => simp [intOf]; omega
            · obtain rfl : k = h + 1 := by omega
              rw [← HE.out] at hown
              have HO := Lib.hid hown
              obtain ⟨A9, n9, c9, rfl⟩ := hown.shape
              clear hown hox
              have hkk : ¬ ((h + 1 : Nat) : Int) ≤ (h : Int) := by omega
              go_wp2_with fail
              go_ret
              exact ⟨_, rfl, HO.out, hbel⟩

end Go.Proofs.Ytmdgloeejjepmaa

