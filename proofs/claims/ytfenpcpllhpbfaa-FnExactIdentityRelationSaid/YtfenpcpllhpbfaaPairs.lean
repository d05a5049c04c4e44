/- Lists of pairs in the laws' helpers: equal lists are told equal; marking and looking. -/
import Derived.Test.YtfenpcpllhpbfaaBase
namespace Go.Proofs.Ytfenpcpllhpbfaa
open Go.ChangeShapes Go.WideShapes Go.ChangeAt Go.RowKit
attribute [local go_sem] ext_cell ext_frozen ext_lt ext_lt1 ext_lt2

theorem eqPair_same (p : Pr) (w : World) :
    Calls Try.prog 12 #[.agg #[.int .i64 p.1, .int .i64 p.2], .agg #[.int .i64 p.1, .int .i64 p.2]] w fun e w' => e = .returned (.bool true) ∧ Below w.heap.size w w' := by
  obtain ⟨a, b⟩ := p
  have h1 : (a != a) = false := by simp
  have h2 : (b != b) = false := by simp
  go_enter Try.func12, Try.ntmps12
  go_wp2
  go_ret
  refine ⟨rfl, ?_⟩
  repeat (first | exact Below.refl _ _ | refine Below.alloc ?_ (by simp) _)

set_option maxHeartbeats 400000 in
theorem eqPairS_same (v1 v2 : Value) (xs : List Pr) (w : World) (hv1 : SlE w cPr 2 v1 xs) (hv2 : SlE w cPr 2 v2 xs) :
    Calls Try.prog 9 #[v1, v2] w fun e w' => e = .returned (.bool true) ∧ Below w.heap.size w w' := by
  obtain ⟨A1, c1, rfl, hl1, hm1, hx1⟩ := hv1
  obtain ⟨A2, c2, rfl, hl2, hm2, hx2⟩ := hv2
  unfold maxLen at hm1 hm2
  go_enter Try.func9, Try.ntmps9
  go_wp2
  go_loopw [5] (fun i wr => ∃ (k : Nat) (u : World), k ≤ xs.length ∧ i = .int .i64 k ∧ wr = ext w u) (fun i _ => xs.length - (intOf i).toNat)
  case atStart => exact ⟨0, w, Nat.zero_le _, rfl, ext_self w⟩
  case round =>
    obtain ⟨k, u, hk, rfl, rfl⟩ := hrel
    by_cases hlt : k < xs.length
    · obtain ⟨b1, o1, rfl, -, hb1, hc1⟩ := hx1 k xs[k] (List.getElem?_eq_getElem hlt)
      obtain ⟨b2, o2, rfl, -, hb2, hc2⟩ := hx2 k xs[k] (List.getElem?_eq_getElem hlt)
      generalize xs[k] = x at hc1 hc2
      have c10 := hc1 0 _ rfl
      have c11 := hc1 1 _ rfl
      have c20 := hc2 0 _ rfl
      have c21 := hc2 1 _ rfl
      simp only [Nat.add_zero] at c10 c20
      clear hc1 hc2 hx1 hx2
      go_wp2
      refine wp_region_ext_lit (by kernel_rfl) (by kernel_rfl) ?_
      repeat (go_big_quiet_step ((go_at_call 12; exact Calls.ext_of (eqPair_same x _))))
      refine wpQuiet_nil ?_
      intro _ hw'
      obtain ⟨u2, hw''⟩ := hw'
      subst hw''
      go_wp2
      go_roundw
      case rel =>
        obtain ⟨y, hy⟩ := ext_ext w u u2
        exact ⟨k + 1, y, by omega, by go_num, hy⟩
      case measure => simp [intOf]; omega
    · go_wp2
      go_ret
      exact ⟨rfl, ext_below _ _⟩
/-- the pairs that 'markPairS' writes -/
def mkPr (k : Int) (n : Nat) : List Pr := (List.range n).map fun (i : Nat) => (k + 2 * (i : Int), k + 2 * (i : Int) + 1)
theorem mkPr_len (k : Int) (n : Nat) : (mkPr k n).length = n := by simp [mkPr]
theorem mkPr_succ (k : Int) (n : Nat) : mkPr k (n + 1) = mkPr k n ++ [(k + 2 * n, k + 2 * n + 1)] := by simp [mkPr, List.range_succ]
theorem mkPr_at (k : Int) {n i : Nat} (h : i < n) : (mkPr k n)[i]? = some (k + 2 * i, k + 2 * i + 1) := by simp [mkPr, h]
theorem flatPr_len (l : List Pr) : (l.flatMap cPr).length = 2 * l.length := by
  induction l with
  | nil => rfl
  | cons x l ih => simp only [List.flatMap_cons, List.length_append, cPr_len, ih, List.length_cons]; omega

theorem markPr_step (k : Int) (xs : List Pr) (i : Nat) (hi : i < xs.length) :
    (((mkPr k i ++ xs.drop i).flatMap cPr).set (i * 2) (.int .i64 (k + 2 * i))).set (i * 2 + 1) (.int .i64 (k + 2 * i + 1)) = (mkPr k (i + 1) ++ xs.drop (i + 1)).flatMap cPr := by
  rw [List.drop_eq_getElem_cons hi, mkPr_succ]
  have hl : ((mkPr k i).flatMap cPr).length = i * 2 := by rw [flatPr_len, mkPr_len]; omega
  simp only [List.flatMap_append, List.flatMap_cons, List.flatMap_nil, List.append_nil, List.append_assoc]
  rw [List.set_append_right _ _ (by omega), List.set_append_right _ _ (by omega), hl]
  simp [cPr]

set_option maxHeartbeats 400000 in
theorem markPairS_any (lo hi : Nat) (e : TypeId) (v : Value) (xs : List Pr) (k : Int) (w : World) (hv : Own lo hi w e cPr 2 v xs) (hk : 0 ≤ k) (hb : k + 2 * xs.length ≤ 4611686018427387904) :
    Calls Try.prog 10 #[v, .int .i64 k] w fun en w' => en = .returned (.int .i64 (k + 2 * xs.length)) ∧ Own lo hi w' e cPr 2 v (mkPr k xs.length) ∧ Only lo hi w w' := by
  obtain ⟨hr, hlt⟩ := hv
  have hr0 := hr
  obtain ⟨hl, hs⟩ := hr0
  rcases hs with ⟨rfl, hn⟩ | ⟨g, cap, cur, rfl, hg, hh, hnc, hcm, hsz, htk⟩
  · obtain rfl : xs = [] := List.eq_nil_of_length_eq_zero hn
    clear hl hr hn hlt
    go_enter Try.func10, Try.ntmps10
    go_wp2
    go_loopw [1, 5] (fun kk ii wr => kk = .int .i64 k ∧ ii = .int .i64 0 ∧ wr = w) (fun _ _ _ => 0)
    case atStart => exact ⟨rfl, rfl, rfl⟩
    case round =>
      obtain ⟨rfl, rfl, rfl⟩ := hrel
      go_wp2
      go_ret
      exact ⟨by simp, by simpa [mkPr] using Own.nil lo hi wr e cPr 2, Only.refl _ _ _⟩
  · have hglt := hlt g rfl
    have hmk0 : xs = mkPr k 0 ++ xs.drop 0 := by simp [mkPr]
    unfold maxLen at hcm
    have HL := Lib.hid hl
    clear hh htk hsz hlt hl
    go_enter Try.func10, Try.ntmps10
    go_wp2
    go_loopw [1, 5] (fun kk ii wr => ∃ i : Nat, i ≤ xs.length ∧ kk = .int .i64 (k + 2 * i) ∧ ii = .int .i64 i ∧ wr.ownsRow lo e 2 (.slice (some ⟨g, 0, none⟩) xs.length cap) xs.length ((mkPr k i ++ xs.drop i).flatMap cPr) ∧ Only lo hi w wr) (fun _ ii _ => xs.length - (intOf ii).toNat)
    case atStart => exact ⟨0, Nat.zero_le _, by simp, rfl, by simpa [mkPr] using hr, Only.refl _ _ _⟩
    case round =>
      obtain ⟨i, hi', rfl, rfl, hrow, honly⟩ := hrel
      by_cases hlt : i < xs.length
      · have hc0 := World.ownsRow.cellAt hrow (i * 2) (by omega)
        have hc1 := World.ownsRow.cellAt hrow (i * 2 + 1) (by omega)
        have hf0 := World.ownsRow.frozenAt hrow (i * 2)
        have hf1 := World.ownsRow.frozenAt hrow (i * 2 + 1)
        have hst := (World.ownsRow.stored (World.ownsRow.stored hrow (i * 2) (.int .i64 (k + 2 * i))).1 (i * 2 + 1) (.int .i64 (k + 2 * i + 1))).1
        rw [markPr_step k xs i hlt] at hst
        have HST := Lib.hid hst
        have hcx0 : ((mkPr k i ++ xs.drop i).flatMap cPr)[i * 2]? = some (.int .i64 xs[i].1) := by
          refine flat_at cPr_len (i := i) (x := xs[i]) ?_ 0 _ rfl
          rw [List.getElem?_append_right (by simp [mkPr_len]), mkPr_len]; simp [hlt]
        have hcx1 : ((mkPr k i ++ xs.drop i).flatMap cPr)[i * 2 + 1]? = some (.int .i64 xs[i].2) := by
          refine flat_at cPr_len (i := i) (x := xs[i]) ?_ 1 _ rfl
          rw [List.getElem?_append_right (by simp [mkPr_len]), mkPr_len]; simp [hlt]
        rw [hcx0] at hc0
        rw [hcx1] at hc1
        clear hcx0 hcx1 hst hrow hr hmk0
        go_wp2
        go_roundw
        case rel => exact ⟨i + 1, by omega, by go_num, by go_num, HST.out, (honly.setCell (.inl ⟨hg, hglt⟩) _).setCell (.inl ⟨hg, hglt⟩) _⟩
        case measure => simp [intOf]; omega
      · obtain rfl : i = xs.length := by omega
        have hown : Own lo hi wr e cPr 2 (.slice (some ⟨g, 0, none⟩) xs.length cap) (mkPr k xs.length) := by
          refine ⟨?_, fun g' hg' => by cases hg'; exact hglt⟩
          rw [mkPr_len]
          simpa using hrow
        clear hrow hr hmk0
        go_wp2
        go_ret
        exact ⟨rfl, hown, honly⟩
set_option maxHeartbeats 400000 in
theorem heldPairS_any (v : Value) (n : Nat) (k : Int) (w : World) (hv : SlE w cPr 2 v (mkPr k n)) (hk : 0 ≤ k) (hb : k + 2 * n ≤ 4611686018427387904) :
    Calls Try.prog 11 #[v, .int .i64 k] w fun en w' => en = .returned (.int .i64 (k + 2 * n)) ∧ Below w.heap.size w w' := by
  obtain ⟨A, c, rfl, hl, hm, hx⟩ := hv
  rw [mkPr_len] at hl
  simp only [mkPr_len]
  unfold maxLen at hm
  go_enter Try.func11, Try.ntmps11
  go_wp2
  go_loopw [1, 5] (fun kk ii wr => ∃ i : Nat, i ≤ n ∧ kk = .int .i64 (k + 2 * i) ∧ ii = .int .i64 i ∧ wr = w) (fun _ ii _ => n - (intOf ii).toNat)
  case atStart => exact ⟨0, Nat.zero_le _, by simp, rfl, rfl⟩
  case round =>
    obtain ⟨i, hi', rfl, rfl, rfl⟩ := hrel
    by_cases hlt : i < n
    · obtain ⟨b, o, rfl, -, hb1, hc⟩ := hx i _ (mkPr_at k hlt)
      have c0 := hc 0 _ rfl
      have c1 := hc 1 _ rfl
      simp only [Nat.add_zero] at c0
      clear hc hx
      have t0 : ((k + 2 * (i : Int)) != (k + 2 * (i : Int))) = false := by simp
      have t1 : ((k + 2 * (i : Int) + 1) != (k + 2 * (i : Int) + 1)) = false := by simp
      go_wp2
      go_roundw
      case rel => exact ⟨i + 1, by omega, by go_num, by go_num, trivial⟩
      case measure => simp [intOf]; omega
    · obtain rfl : i = n := by omega
      go_wp2
      go_ret
      exact ⟨rfl, Below.refl _ _⟩
end Go.Proofs.Ytfenpcpllhpbfaa
