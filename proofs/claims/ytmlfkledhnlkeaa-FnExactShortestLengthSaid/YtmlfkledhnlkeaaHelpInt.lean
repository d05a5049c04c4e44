/- Int in the laws' helpers: equal lists are told equal; marking, looking, copying, measuring. -/
import Derived.Test.YtmlfkledhnlkeaaGrow
import Derived.Test.YtmlfkledhnlkeaaTail
namespace Go.Proofs.Ytmlfkledhnlkeaa
set_option linter.unusedVariables false
set_option linter.unusedSimpArgs false
open Go.ChangeShapes Go.WideShapes Go.ChangeAt Go.RowKit
attribute [local go_sem] ext_cell ext_frozen ext_lt ext_lt1 ext_lt2 ext_lt3 ltn2 ltn3 ltn13 lts1 lts2 lts3

set_option maxHeartbeats 400000 in
theorem eqIntS_same (v1 v2 : Value) (xs : List Int) (w : World) (hv1 : SlE w cI 1 v1 xs) (hv2 : SlE w cI 1 v2 xs) :
    Calls Try.prog 22 #[v1, v2] w fun e w' => e = .returned (.bool true) ∧ Below w.heap.size w w' := by
  obtain ⟨A1, c1, rfl, hl1, hm1, hx1⟩ := hv1
  obtain ⟨A2, c2, rfl, hl2, hm2, hx2⟩ := hv2
  unfold maxLen at hm1 hm2
  go_enter Try.func22, Try.ntmps22
  go_wp2
  go_loopw [5] (fun i wr => ∃ (k : Nat) (u : World), k ≤ xs.length ∧ i = .int .i64 k ∧ wr = ext w u) (fun i _ => xs.length - (intOf i).toNat)
  case atStart => exact ⟨0, w, Nat.zero_le _, rfl, ext_self w⟩
  case round =>
    obtain ⟨k, u, hk, rfl, rfl⟩ := hrel
    by_cases hlt : k < xs.length
    · obtain ⟨b1, o1, rfl, -, hb1, hc1⟩ := hx1 k xs[k] (List.getElem?_eq_getElem hlt)
      obtain ⟨b2, o2, rfl, -, hb2, hc2⟩ := hx2 k xs[k] (List.getElem?_eq_getElem hlt)
      generalize xs[k] = x at hc1 hc2
      have c10 := hc1 0 _ rfl
      have c20 := hc2 0 _ rfl
      simp only [Nat.add_zero, Nat.mul_one] at c10 c20
      clear hc1 hc2 hx1 hx2
      go_wp2
      refine wp_region_ext_lit (by kernel_rfl) (by kernel_rfl) ?_
      repeat (go_big_quiet_step (fail))
      refine wpQuiet_nil ?_
      intro _ hw'
      obtain ⟨u2, hw''⟩ := hw'
      subst hw''
      go_wp2
      go_roundw
      case rel =>
        obtain ⟨y, hy⟩ := ext_ext w u u2
        exact ⟨k + 1, y, by omega, by go_num, hy⟩
      case measure => simp [intOf]; omega
    · go_wp2
      go_ret
      exact ⟨rfl, ext_below _ _⟩
def mkInt (k : Int) (n : Nat) : List Int := (List.range n).map fun (i : Nat) => k + (i : Int)
theorem mkInt_len (k : Int) (n : Nat) : (mkInt k n).length = n := by simp [mkInt]
theorem mkInt_succ (k : Int) (i : Nat) : mkInt k (i + 1) = mkInt k i ++ [k + (i : Int)] := by simp [mkInt, List.range_succ]
theorem mkInt_at (k : Int) {n i : Nat} (h : i < n) : (mkInt k n)[i]? = some (k + (i : Int)) := by simp [mkInt, h]
theorem flatInt_len (l : List Int) : (l.flatMap cI).length = l.length * 1 := by
  induction l with
  | nil => rfl
  | cons x l ih => simp only [List.flatMap_cons, List.length_append, cI_len, ih, List.length_cons]; omega
theorem markInt_step (k : Int) (xs : List Int) (i : Nat) (hi : i < xs.length) :
    (((mkInt k i ++ xs.drop i).flatMap cI).set (i) (.int .i64 (k + (i : Int)))) = (mkInt k (i + 1) ++ xs.drop (i + 1)).flatMap cI := by
  rw [List.drop_eq_getElem_cons hi, mkInt_succ]
  have hl : ((mkInt k i).flatMap cI).length = i := by rw [flatInt_len, mkInt_len]; omega
  simp only [List.flatMap_append, List.flatMap_cons, List.flatMap_nil, List.append_nil, List.append_assoc]
  rw [List.set_append_right _ _ (by omega), hl]
  simp [cI]
set_option maxHeartbeats 4000000 in
theorem markIntS_any (lo hi : Nat) (e : TypeId) (v : Value) (xs : List Int) (k : Int) (w : World) (hv : Own lo hi w e cI 1 v xs) (hk : 0 ≤ k) (hb : k + 1 * xs.length ≤ 4611686018427387904) :
    Calls Try.prog 24 #[v, .int .i64 k] w fun en w' => en = .returned (.int .i64 (k + xs.length)) ∧ Own lo hi w' e cI 1 v (mkInt k xs.length) ∧ Only lo hi w w' := by
  obtain ⟨hr, hlt⟩ := hv
  have hr0 := hr
  obtain ⟨hl, hs⟩ := hr0
  rcases hs with ⟨rfl, hn⟩ | ⟨g, cap, cur, rfl, hg, hh, hnc, hcm, hsz, htk⟩
  · obtain rfl : xs = [] := List.eq_nil_of_length_eq_zero hn
    clear hl hr hn hlt
    go_enter Try.func24, Try.ntmps24
    go_wp2
    go_loopw [1, 5] (fun kk ii wr => kk = .int .i64 k ∧ ii = .int .i64 0 ∧ wr = w) (fun _ _ _ => 0)
    case atStart => exact ⟨rfl, rfl, rfl⟩
    case round =>
      obtain ⟨rfl, rfl, rfl⟩ := hrel
      go_wp2
      go_ret
      exact ⟨by simp, by simpa [mkInt] using Own.nil lo hi wr e cI 1, Only.refl _ _ _⟩
  · have hglt := hlt g rfl
    unfold maxLen at hcm
    have HL := Lib.hid hl
    clear hh htk hsz hlt hl
    go_enter Try.func24, Try.ntmps24
    go_wp2
    go_loopw [1, 5] (fun kk ii wr => ∃ i : Nat, i ≤ xs.length ∧ kk = .int .i64 (k + i) ∧ ii = .int .i64 i ∧ wr.ownsRow lo e 1 (.slice (some ⟨g, 0, none⟩) xs.length cap) xs.length ((mkInt k i ++ xs.drop i).flatMap cI) ∧ Only lo hi w wr) (fun _ ii _ => xs.length - (intOf ii).toNat)
    case atStart => exact ⟨0, Nat.zero_le _, by simp, rfl, by simpa [mkInt] using hr, Only.refl _ _ _⟩
    case round =>
      obtain ⟨i, hi', rfl, rfl, hrow, honly⟩ := hrel
      by_cases hlt : i < xs.length
      · have hrow0 := hrow
        have hc0 := World.ownsRow.cellAt hrow (i) (by omega)
        have hf0 := World.ownsRow.frozenAt hrow (i)
        have hst := (World.ownsRow.stored hrow0 (i) (.int .i64 (k + (i : Int)))).1
        rw [markInt_step k xs i hlt] at hst
        have HST := Lib.hid hst
        have hxi : (mkInt k i ++ xs.drop i)[i]? = some xs[i] := by
          rw [List.getElem?_append_right (by simp [mkInt_len]), mkInt_len]; simp [hlt]
        have hcx0 : ((mkInt k i ++ xs.drop i).flatMap cI)[i]? = some (.int .i64 xs[i]) := by
          have := flat_at cI_len hxi 0 _ rfl
          simpa using this
        rw [hcx0] at hc0
        clear hcx0 hxi hst hrow hrow0 hr
        go_wp2
        go_roundw
        case rel => exact ⟨i + 1, by omega, by go_num, by go_num, HST.out, (honly.setCell (.inl ⟨hg, hglt⟩) _)⟩
        case measure => simp [intOf]; omega
      · obtain rfl : i = xs.length := by omega
        have hown : Own lo hi wr e cI 1 (.slice (some ⟨g, 0, none⟩) xs.length cap) (mkInt k xs.length) := by
          refine ⟨?_, fun g' hg' => by cases hg'; exact hglt⟩
          rw [mkInt_len]
          simpa using hrow
        clear hrow hr
        go_wp2
        go_ret
        exact ⟨rfl, hown, honly⟩
set_option maxHeartbeats 4000000 in
theorem heldIntS_any (v : Value) (n : Nat) (k : Int) (w : World) (hv : SlE w cI 1 v (mkInt k n)) (hk : 0 ≤ k) (hb : k + 1 * n ≤ 4611686018427387904) :
    Calls Try.prog 25 #[v, .int .i64 k] w fun en w' => en = .returned (.int .i64 (k + n)) ∧ Below w.heap.size w w' := by
  obtain ⟨A, c, rfl, hl, hm, hx⟩ := hv
  rw [mkInt_len] at hl
  simp only [mkInt_len]
  unfold maxLen at hm
  go_enter Try.func25, Try.ntmps25
  go_wp2
  go_loopw [1, 5] (fun kk ii wr => ∃ (i : Nat) (u : World), i ≤ n ∧ kk = .int .i64 (k + i) ∧ ii = .int .i64 i ∧ wr = ext w u) (fun _ ii _ => n - (intOf ii).toNat)
  case atStart => exact ⟨0, w, Nat.zero_le _, by simp, rfl, ext_self w⟩
  case round =>
    obtain ⟨i, u, hi', rfl, rfl, rfl⟩ := hrel
    by_cases hlt : i < n
    · obtain ⟨b, o, rfl, -, hb1, hc⟩ := hx i _ (mkInt_at k hlt)
      have c0 := hc 0 _ rfl
      simp only [Nat.add_zero, Nat.mul_one] at c0
      clear hc hx
      go_wp2
      go_roundw
      case rel => exact ⟨i + 1, u, by omega, by go_num, by go_num, rfl⟩
      case measure => simp [intOf]; omega
    · obtain rfl : i = n := by omega
      go_wp2
      go_ret
      exact ⟨rfl, ext_below _ _⟩
theorem szIntS_any (A : Option Addr) (n c : Nat) (left : Int) (w : World) (hn : n ≤ maxLen) (h0 : 0 ≤ left) (h1 : left ≤ 1048576) :
    Calls Try.prog 55 #[.slice A n c, .int .i64 left] w fun e w' => e = .returned (.int .i64 (if left < n then -1 else left - n)) ∧ w' = w := by
  unfold maxLen at hn
  by_cases hlt : left < n
  · rw [if_pos hlt]
    go_enter Try.func55, Try.ntmps55
    go_wp2
    go_ret
    exact ⟨rfl, rfl⟩
  · rw [if_neg hlt]
    go_enter Try.func55, Try.ntmps55
    go_wp2
    go_ret
    exact ⟨rfl, rfl⟩
theorem elInt : ElemOk Try.prog 22 3 (.int .i64 0) 1 8 := ⟨Try.underlying22, by kernel_rfl, rfl, by omega⟩
theorem toInt_step (xs : List Int) (i : Nat) (x : Int) (hx : xs[i]? = some x) :
    (((xs.take i ++ List.replicate (xs.length - i) (0 : Int)).flatMap cI).set (i) (.int .i64 x)) = (xs.take (i + 1) ++ List.replicate (xs.length - (i + 1)) (0 : Int)).flatMap cI := by
  have hi := (List.getElem?_eq_some_iff.1 hx).1
  rw [take_snoc hx, show xs.length - i = (xs.length - (i + 1)) + 1 by omega, List.replicate_succ]
  have hl : ((xs.take i).flatMap cI).length = i := by rw [flatInt_len, List.length_take]; omega
  simp only [List.flatMap_append, List.flatMap_cons, List.flatMap_nil, List.append_nil, List.append_assoc]
  rw [List.set_append_right _ _ (by omega), hl]
  simp [cI]
set_option maxHeartbeats 1000000 in
theorem toIntS_any (v : Value) (xs : List Int) (w : World) (hv : SlE w cI 1 v xs) (hn : xs.length ≤ 1048576) :
    Calls Try.prog 57 #[v] w fun en w' => ∃ v', en = .returned v' ∧ Own w.heap.size w'.heap.size w' 3 cI 1 v' xs ∧ Below w.heap.size w w' := by
  obtain ⟨A, c, rfl, hl, hm, hx⟩ := hv
  go_enter Try.func57, Try.ntmps57
  go_wp2_with (at_make; refine wpList_makeE (P := Try.prog) cI (0 : Int) elInt rfl rfl rfl _ _ rfl w.heap.size xs.length _ (by rfl) (by rfl) rfl (by omega) (by unfold maxLen; omega) (Nat.le_refl _) ?_; intro w1 hrow1 hbel1)
  go_loopw [4] (fun ii wr => ∃ i : Nat, i ≤ xs.length ∧ ii = .int .i64 i ∧ wr.ownsRow w.heap.size 3 1 (.slice (some ⟨w.heap.size, 0, none⟩) xs.length xs.length) xs.length ((xs.take i ++ List.replicate (xs.length - i) (0 : Int)).flatMap cI) ∧ Below w.heap.size w wr) (fun ii _ => xs.length - (intOf ii).toNat)
  case atStart => exact ⟨0, Nat.zero_le _, rfl, by simpa using hrow1, hbel1⟩
  case round =>
    obtain ⟨i, hi', rfl, hrow, hbel⟩ := hrel
    by_cases hlt : i < xs.length
    · have hxi : xs[i]? = some xs[i] := List.getElem?_eq_getElem hlt
      obtain ⟨b, o, rfl, -, hb1, hc⟩ := hx i _ hxi
      have hstep := toInt_step xs i _ hxi
      have hcur : (xs.take i ++ List.replicate (xs.length - i) (0 : Int))[i]? = some (0 : Int) := by
        rw [List.getElem?_append_right (by rw [List.length_take]; omega), List.getElem?_replicate, if_pos (by rw [List.length_take]; omega)]
      generalize xs[i] = x at hc hstep hxi
      have hs := hbel.size
      have c0 := (hbel.cell (p := ⟨b, o + i * 1 + 0, none⟩) hb1).trans (hc 0 _ rfl)
      simp only [Nat.add_zero, Nat.mul_one] at c0
      clear hc hx hxi hrow1 hbel1
      have hrow2 := hrow
      have d0 := World.ownsRow.cellAt hrow2 (i) (by omega)
      have f0 := World.ownsRow.frozenAt hrow2 (i)
      have e0 := flat_at cI_len hcur 0 _ rfl
      simp only [Nat.mul_one, Nat.add_zero] at e0
      rw [e0] at d0
      clear e0
      have hst := (World.ownsRow.stored hrow2 (i) (.int .i64 x)).1
      rw [hstep] at hst
      have HST := Lib.hid hst
      clear hst hstep hcur hrow hrow2
      go_wp2
      go_roundw
      case rel => exact ⟨i + 1, by omega, by go_num, HST.out, (hbel.setCell (Nat.le_refl _) _)⟩
      case measure => simp [intOf]; omega
    · obtain rfl : i = xs.length := by omega
      go_wp2
      go_ret
      exact ⟨_, rfl, Own.of_row hrow rfl (by simp), hbel⟩
end Go.Proofs.Ytmlfkledhnlkeaa
