/- The program's walks: when one is a walk of a graph, and when it is allowed. -/
import Derived.Test.YtbhmgpclakkgbaaNodesI
namespace Go.Proofs.Ytbhmgpclakkgbaa
set_option linter.unusedVariables false
set_option linter.unusedSimpArgs false
open Go.ChangeShapes Go.WideShapes Go.ChangeAt Go.RowKit
attribute [local go_sem] ext_cell ext_frozen ext_lt ext_lt1 ext_lt2 ext_lt3 ltn2 ltn3 ltn13 lts1 lts2 lts3

theorem implIsWalk (v1 v2 : Value) (g : Gr) (k : Wk) (w : World) (hv1 : GrV 0 w.heap.size w v1 g) (hv2 : WkV 0 w.heap.size w v2 k) :
    Calls Try.prog 89 #[v1, v2] w fun en w' => en = .returned (.bool (walkOk g k)) ∧ Below w.heap.size w w' := by
  have hv0 := hv1
  have hv3 := hv2
  obtain ⟨A1, n1, c1, A2, n2, c2, rfl⟩ := hv1.shape
  obtain ⟨A3, n3, c3, rfl⟩ := hv2.shape
  clear hv1 hv2
  have hb0 : Below w.heap.size w ((w.alloc (.cells #[.slice A1 n1 c1, .slice A2 n2 c2] 44)).alloc (.cells #[.int .i64 k.1, .slice A3 n3 c3] 57)) := ((Below.refl _ _).alloc (Nat.le_refl _) _).alloc (by simp) _
  have hc := implNodes _ _ g k _ (hv0.keep hb0) (hv3.keep hb0)
  have HC := Lib.hid hc
  clear hc
  generalize walkOk g k = bb at HC
  go_enter Try.func89, Try.ntmps89
  go_wp2_with fail
  refine HC.out.mono ?_
  rintro e w1 ⟨v, rfl, -, hb1⟩
  go_wp2_with fail
  go_ret
  exact ⟨rfl, below_trans hb0 hb1⟩

set_option maxHeartbeats 2000000 in
theorem implWalkAllowed (v1 v2 : Value) (g : Gr) (c : Int) (k : Wk) (w : World) (hv1 : GrV 0 w.heap.size w v1 g) (hv2 : WkV 0 w.heap.size w v2 k) :
    Calls Try.prog 31 #[v1, .int .i64 c, v2] w fun en w' => en = .returned (.bool (walkAllowed g c k)) ∧ Below w.heap.size w w' := by
  have hv0 := hv1
  have hv3 := hv2
  obtain ⟨A1, n1, c1, A2, n2, c2, rfl⟩ := hv1.shape
  obtain ⟨ss, rfl, ⟨A3, c3, rfl, hl3, hm3, hx3⟩⟩ := hv2
  unfold maxLen at hm3
  clear hv1
  have hb0 : Below w.heap.size w ((w.alloc (.cells #[.slice A1 n1 c1, .slice A2 n2 c2] 44)).alloc (.cells #[.int .i64 k.1, .slice A3 k.2.length c3] 57)) := ((Below.refl _ _).alloc (Nat.le_refl _) _).alloc (by simp) _
  have hbx := fun u => below_trans hb0 (ext_below _ u)
  have hwa : walkAllowed g c k = (k.2.all (stepAllowed g c) && wi c 0 4 && walkOk g k) := rfl
  have HWA := Lib.hid hwa
  have HX3 := Lib.hid hx3
  clear hx3 hwa
  generalize walkAllowed g c k = res at HWA
  go_enter Try.func31, Try.ntmps31
  go_wp2_with fail
  go_loopw [12] (fun ii wr => ∃ (i : Nat) (u : World), i ≤ k.2.length ∧ ii = .int .i64 i ∧ (k.2.take i).all (stepAllowed g c) = true ∧ wr = ext ((w.alloc (.cells #[.slice A1 n1 c1, .slice A2 n2 c2] 44)).alloc (.cells #[.int .i64 k.1, .slice A3 k.2.length c3] 57)) u) (fun ii _ => k.2.length - (intOf ii).toNat)
  case atStart => exact ⟨0, _, Nat.zero_le _, rfl, rfl, ext_self _⟩
  case round =>
    obtain ⟨i, u, hi, rfl, hal, rfl⟩ := hrel
    have HA := Lib.hid hal
    clear hal
    by_cases hlt : i < k.2.length
    · have hxs : k.2[i]? = some k.2[i] := List.getElem?_eq_getElem hlt
      generalize k.2[i] = s at hxs
      obtain ⟨sid, sinv⟩ := s
      obtain ⟨b, o, rfl, -, hb, hc⟩ := HX3.out i _ hxs
      have d0 := hc 0 _ rfl
      have d1 := hc 1 _ rfl
      simp only [Nat.add_zero] at d0
      have hcall := fun W (hW : Below w.heap.size w W) => implStepAllowed _ g c (sid, sinv) W (hv0.keep hW)
      have HCA := Lib.hid hcall
      have HXS := Lib.hid hxs
      have hb1 : b < w.heap.size + 1 := by omega
      clear hc hcall hxs
      have hbw := fun (X : Obj) => ((hbx u).alloc (hbx u).size X)
      cases hst : stepAllowed g c (sid, sinv) with
      | true =>
        rw [hst] at HCA
        have HST := Lib.hid hst
        clear hst
        go_wp2_with fail
        refine (HCA.out _ (hbw _)).mono ?_
        rintro e w1 ⟨rfl, hb9⟩
        obtain ⟨z, hz⟩ := ext_of (below_trans ((ext_below _ u).alloc (ext_below _ u).size (.cells #[.int .i64 sid, .bool sinv] 46)) hb9)
        subst hz
        clear hb9
        go_wp2_with fail
        go_roundw
        case rel => exact ⟨i + 1, z, by omega, by go_num, all_take_succ HXS.out HA.out HST.out, rfl⟩
        case measure => simp [intOf]; omega
      | false =>
        rw [hst] at HCA
        have hfin : res = false := by rw [HWA.out, all_false_of HXS.out hst]; rfl
        clear hst
        go_wp2_with fail
        refine (HCA.out _ (hbw _)).mono ?_
        rintro e w1 ⟨rfl, hb9⟩
        go_wp2_with fail
        go_ret
        exact ⟨by rw [hfin]; rfl, below_trans (hbw _) hb9⟩
    · obtain rfl : i = k.2.length := by omega
      have hfin : res = (wi c 0 4 && walkOk g k) := by
        have := HA.out
        rw [List.take_length] at this
        rw [HWA.out, this]; rfl
      have HF := Lib.hid hfin
      have HWI := Lib.hid within_any
      have hv0x := hv0.keep (hbx u)
      have hv3x := hv3.keep (hbx u)
      have hcw := implIsWalk _ _ g k _ hv0x hv3x
      have HCW := Lib.hid hcw
      clear hfin HWA hcw HX3 HA
      generalize walkOk g k = bw at HF HCW
      cases hwi : wi c 0 4 with
      | false =>
        go_wp2_with (go_at_call 88; refine (HWI.out _ _ _ _).mono ?_; rintro e w' ⟨rfl, hw'⟩; have hw' := hw'.symm; subst hw')
        go_ret
        exact ⟨by rw [HF.out, hwi]; rfl, hbx u⟩
      | true =>
        go_wp2_with (first | (go_at_call 88; refine (HWI.out _ _ _ _).mono ?_; rintro e w' ⟨rfl, hw'⟩; have hw' := hw'.symm; subst hw') | (go_at_call 89; refine HCW.out.mono ?_; rintro e w4 ⟨rfl, hb4⟩))
        go_ret
        exact ⟨by rw [HF.out, hwi]; rfl, below_trans (hbx u) hb4⟩
end Go.Proofs.Ytbhmgpclakkgbaa
