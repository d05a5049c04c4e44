/- Parts of the proof, joined into one text: HelpInt, HelpEdge, HelpGraph, HelpBool, HelpSS. -/
import Derived.Test.YtpbfdmfkmbdpkaaGreatPartEPECPLEK
/- Int in the laws' helpers: equal lists are told equal; marking, looking, copying, measuring. -/
namespace Go.Proofs.YtpbfdmfkmbdpkaaGreat
set_option linter.unusedVariables false
set_option linter.unusedSimpArgs false
open Go.ChangeShapes Go.WideShapes Go.ChangeAt Go.RowKit
attribute [local go_sem] ext_cell ext_frozen ext_lt ext_lt1 ext_lt2 ext_lt3 ltn2 ltn3 ltn13 lts1 lts2 lts3

set_option maxHeartbeats 400000 in
theorem eqIntS_same (v1 v2 : Value) (xs : List Int) (w : World) (hv1 : SlE w cI 1 v1 xs) (hv2 : SlE w cI 1 v2 xs) :
    Calls Tryz.prog 36 #[v1, v2] w fun e w' => e = .returned (.bool true) ∧ Below w.heap.size w w' := by
  obtain ⟨A1, c1, rfl, hl1, hm1, hx1⟩ := hv1
  obtain ⟨A2, c2, rfl, hl2, hm2, hx2⟩ := hv2
  unfold maxLen at hm1 hm2
  go_enter Tryz.func36, Tryz.ntmps36
  go_wp2
  go_loopw [5] (fun i wr => ∃ (k : Nat) (u : World), k ≤ xs.length ∧ i = .int .i64 k ∧ wr = ext w u) (fun i _ => xs.length - (intOf i).toNat)
  case atStart => exact ⟨0, w, Nat.zero_le _, rfl, ext_self w⟩
  case round =>
    obtain ⟨k, u, hk, rfl, rfl⟩ := hrel
    by_cases hlt : k < xs.length
    · obtain ⟨b1, o1, rfl, -, hb1, hc1⟩ := hx1 k xs[k] (List.getElem?_eq_getElem hlt)
      obtain ⟨b2, o2, rfl, -, hb2, hc2⟩ := hx2 k xs[k] (List.getElem?_eq_getElem hlt)
      generalize xs[k] = x at hc1 hc2
      have c10 := hc1 0 _ rfl
      have c20 := hc2 0 _ rfl
      simp only [Nat.add_zero, Nat.mul_one] at c10 c20
      clear hc1 hc2 hx1 hx2
      go_wp2
      refine wp_region_ext_lit (by kernel_rfl) (by kernel_rfl) ?_
      repeat (go_big_quiet_step (fail))
      refine wpQuiet_nil ?_
      intro _ hw'
      obtain ⟨u2, hw''⟩ := hw'
      subst hw''
      go_wp2
      go_roundw
      case rel =>
        obtain ⟨y, hy⟩ := ext_ext w u u2
        exact ⟨k + 1, y, by omega, by go_num, hy⟩
      case measure => simp [intOf]; omega
    · go_wp2
      go_ret
      exact ⟨rfl, ext_below _ _⟩
def mkInt (k : Int) (n : Nat) : List Int := (List.range n).map fun (i : Nat) => k + (i : Int)
theorem mkInt_len (k : Int) (n : Nat) : (mkInt k n).length = n := by simp [mkInt]
theorem mkInt_succ (k : Int) (i : Nat) : mkInt k (i + 1) = mkInt k i ++ [k + (i : Int)] := by simp [mkInt, List.range_succ]
theorem mkInt_at (k : Int) {n i : Nat} (h : i < n) : (mkInt k n)[i]? = some (k + (i : Int)) := by simp [mkInt, h]
theorem flatInt_len (l : List Int) : (l.flatMap cI).length = l.length * 1 := by
  induction l with
  | nil => rfl
  | cons x l ih => simp only [List.flatMap_cons, List.length_append, cI_len, ih, List.length_cons]; omega
theorem markInt_step (k : Int) (xs : List Int) (i : Nat) (hi : i < xs.length) :
    (((mkInt k i ++ xs.drop i).flatMap cI).set (i) (.int .i64 (k + (i : Int)))) = (mkInt k (i + 1) ++ xs.drop (i + 1)).flatMap cI := by
  rw [List.drop_eq_getElem_cons hi, mkInt_succ]
  have hl : ((mkInt k i).flatMap cI).length = i := by rw [flatInt_len, mkInt_len]; omega
  simp only [List.flatMap_append, List.flatMap_cons, List.flatMap_nil, List.append_nil, List.append_assoc]
  rw [List.set_append_right _ _ (by omega), hl]
  simp [cI]
set_option maxHeartbeats 4000000 in
theorem markIntS_any (lo hi : Nat) (e : TypeId) (v : Value) (xs : List Int) (k : Int) (w : World) (hv : Own lo hi w e cI 1 v xs) (hk : 0 ≤ k) (hb : k + 1 * xs.length ≤ 4611686018427387904) :
    Calls Tryz.prog 40 #[v, .int .i64 k] w fun en w' => en = .returned (.int .i64 (k + xs.length)) ∧ Own lo hi w' e cI 1 v (mkInt k xs.length) ∧ Only lo hi w w' := by
  obtain ⟨hr, hlt⟩ := hv
  have hr0 := hr
  obtain ⟨hl, hs⟩ := hr0
  rcases hs with ⟨rfl, hn⟩ | ⟨g, cap, cur, rfl, hg, hh, hnc, hcm, hsz, htk⟩
  · obtain rfl : xs = [] := List.eq_nil_of_length_eq_zero hn
    clear hl hr hn hlt
    go_enter Tryz.func40, Tryz.ntmps40
    go_wp2
    go_loopw [1, 5] (fun kk ii wr => kk = .int .i64 k ∧ ii = .int .i64 0 ∧ wr = w) (fun _ _ _ => 0)
    case atStart => exact ⟨rfl, rfl, rfl⟩
    case round =>
      obtain ⟨rfl, rfl, rfl⟩ := hrel
      go_wp2
      go_ret
      exact ⟨by simp, by simpa [mkInt] using Own.nil lo hi wr e cI 1, Only.refl _ _ _⟩
  · have hglt := hlt g rfl
    unfold maxLen at hcm
    have HL := Lib.hid hl
    clear hh htk hsz hlt hl
    go_enter Tryz.func40, Tryz.ntmps40
    go_wp2
    go_loopw [1, 5] (fun kk ii wr => ∃ i : Nat, i ≤ xs.length ∧ kk = .int .i64 (k + i) ∧ ii = .int .i64 i ∧ wr.ownsRow lo e 1 (.slice (some ⟨g, 0, none⟩) xs.length cap) xs.length ((mkInt k i ++ xs.drop i).flatMap cI) ∧ Only lo hi w wr) (fun _ ii _ => xs.length - (intOf ii).toNat)
    case atStart => exact ⟨0, Nat.zero_le _, by simp, rfl, by simpa [mkInt] using hr, Only.refl _ _ _⟩
    case round =>
      obtain ⟨i, hi', rfl, rfl, hrow, honly⟩ := hrel
      by_cases hlt : i < xs.length
      · have hrow0 := hrow
        have hc0 := World.ownsRow.cellAt hrow (i) (by omega)
        have hf0 := World.ownsRow.frozenAt hrow (i)
        have hst := (World.ownsRow.stored hrow0 (i) (.int .i64 (k + (i : Int)))).1
        rw [markInt_step k xs i hlt] at hst
        have HST := Lib.hid hst
        have hxi : (mkInt k i ++ xs.drop i)[i]? = some xs[i] := by
          rw [List.getElem?_append_right (by simp [mkInt_len]), mkInt_len]; simp [hlt]
        have hcx0 : ((mkInt k i ++ xs.drop i).flatMap cI)[i]? = some (.int .i64 xs[i]) := by
          have := flat_at cI_len hxi 0 _ rfl
          simpa using this
        rw [hcx0] at hc0
        clear hcx0 hxi hst hrow hrow0 hr
        go_wp2
        go_roundw
        case rel => exact ⟨i + 1, by omega, by go_num, by go_num, HST.out, (honly.setCell (.inl ⟨hg, hglt⟩) _)⟩
        case measure => simp [intOf]; omega
      · obtain rfl : i = xs.length := by omega
        have hown : Own lo hi wr e cI 1 (.slice (some ⟨g, 0, none⟩) xs.length cap) (mkInt k xs.length) := by
          refine ⟨?_, fun g' hg' => by cases hg'; exact hglt⟩
          rw [mkInt_len]
          simpa using hrow
        clear hrow hr
        go_wp2
        go_ret
        exact ⟨rfl, hown, honly⟩
theorem szIntS_any (A : Option Addr) (n c : Nat) (left : Int) (w : World) (hn : n ≤ maxLen) (h0 : 0 ≤ left) (h1 : left ≤ 1048576) :
    Calls Tryz.prog 23 #[.slice A n c, .int .i64 left] w fun e w' => e = .returned (.int .i64 (if left < n then -1 else left - n)) ∧ w' = w := by
  unfold maxLen at hn
  by_cases hlt : left < n
  · rw [if_pos hlt]
    go_enter Tryz.func23, Tryz.ntmps23
    go_wp2
    go_ret
    exact ⟨rfl, rfl⟩
  · rw [if_neg hlt]
    go_enter Tryz.func23, Tryz.ntmps23
    go_wp2
    go_ret
    exact ⟨rfl, rfl⟩
theorem elInt : ElemOk Tryz.prog 22 3 (.int .i64 0) 1 8 := ⟨Tryz.underlying22, by kernel_rfl, rfl, by omega⟩
theorem toInt_step (xs : List Int) (i : Nat) (x : Int) (hx : xs[i]? = some x) :
    (((xs.take i ++ List.replicate (xs.length - i) (0 : Int)).flatMap cI).set (i) (.int .i64 x)) = (xs.take (i + 1) ++ List.replicate (xs.length - (i + 1)) (0 : Int)).flatMap cI := by
  have hi := (List.getElem?_eq_some_iff.1 hx).1
  rw [take_snoc hx, show xs.length - i = (xs.length - (i + 1)) + 1 by omega, List.replicate_succ]
  have hl : ((xs.take i).flatMap cI).length = i := by rw [flatInt_len, List.length_take]; omega
  simp only [List.flatMap_append, List.flatMap_cons, List.flatMap_nil, List.append_nil, List.append_assoc]
  rw [List.set_append_right _ _ (by omega), hl]
  simp [cI]
set_option maxHeartbeats 1000000 in
theorem toIntS_any (v : Value) (xs : List Int) (w : World) (hv : SlE w cI 1 v xs) (hn : xs.length ≤ 1048576) :
    Calls Tryz.prog 29 #[v] w fun en w' => ∃ v', en = .returned v' ∧ Own w.heap.size w'.heap.size w' 3 cI 1 v' xs ∧ Below w.heap.size w w' := by
  obtain ⟨A, c, rfl, hl, hm, hx⟩ := hv
  go_enter Tryz.func29, Tryz.ntmps29
  go_wp2_with (at_make; refine wpList_makeE (P := Tryz.prog) cI (0 : Int) elInt rfl rfl rfl _ _ rfl w.heap.size xs.length _ (by rfl) (by rfl) rfl (by omega) (by unfold maxLen; omega) (Nat.le_refl _) ?_; intro w1 hrow1 hbel1)
  go_loopw [4] (fun ii wr => ∃ i : Nat, i ≤ xs.length ∧ ii = .int .i64 i ∧ wr.ownsRow w.heap.size 3 1 (.slice (some ⟨w.heap.size, 0, none⟩) xs.length xs.length) xs.length ((xs.take i ++ List.replicate (xs.length - i) (0 : Int)).flatMap cI) ∧ Below w.heap.size w wr) (fun ii _ => xs.length - (intOf ii).toNat)
  case atStart => exact ⟨0, Nat.zero_le _, rfl, by simpa using hrow1, hbel1⟩
  case round =>
    obtain ⟨i, hi', rfl, hrow, hbel⟩ := hrel
    by_cases hlt : i < xs.length
    · have hxi : xs[i]? = some xs[i] := List.getElem?_eq_getElem hlt
      obtain ⟨b, o, rfl, -, hb1, hc⟩ := hx i _ hxi
      have hstep := toInt_step xs i _ hxi
      have hcur : (xs.take i ++ List.replicate (xs.length - i) (0 : Int))[i]? = some (0 : Int) := by
        rw [List.getElem?_append_right (by rw [List.length_take]; omega), List.getElem?_replicate, if_pos (by rw [List.length_take]; omega)]
      generalize xs[i] = x at hc hstep hxi
      have hs := hbel.size
      have c0 := (hbel.cell (p := ⟨b, o + i * 1 + 0, none⟩) hb1).trans (hc 0 _ rfl)
      simp only [Nat.add_zero, Nat.mul_one] at c0
      clear hc hx hxi hrow1 hbel1
      have hrow2 := hrow
      have d0 := World.ownsRow.cellAt hrow2 (i) (by omega)
      have f0 := World.ownsRow.frozenAt hrow2 (i)
      have e0 := flat_at cI_len hcur 0 _ rfl
      simp only [Nat.mul_one, Nat.add_zero] at e0
      rw [e0] at d0
      clear e0
      have hst := (World.ownsRow.stored hrow2 (i) (.int .i64 x)).1
      rw [hstep] at hst
      have HST := Lib.hid hst
      clear hst hstep hcur hrow hrow2
      go_wp2
      go_roundw
      case rel => exact ⟨i + 1, by omega, by go_num, HST.out, (hbel.setCell (Nat.le_refl _) _)⟩
      case measure => simp [intOf]; omega
    · obtain rfl : i = xs.length := by omega
      go_wp2
      go_ret
      exact ⟨_, rfl, Own.of_row hrow rfl (by simp), hbel⟩
end Go.Proofs.YtpbfdmfkmbdpkaaGreat

/- Edge in the laws' helpers: equal lists are told equal; marking, looking, copying, measuring. -/
namespace Go.Proofs.YtpbfdmfkmbdpkaaGreat
set_option linter.unusedVariables false
set_option linter.unusedSimpArgs false
open Go.ChangeShapes Go.WideShapes Go.ChangeAt Go.RowKit
attribute [local go_sem] ext_cell ext_frozen ext_lt ext_lt1 ext_lt2 ext_lt3 ltn2 ltn3 ltn13 lts1 lts2 lts3

theorem eqEdge_same (p : Ed) (w : World) :
    Calls Tryz.prog 65 #[.agg #[.int .i64 p.1, .int .i64 p.2.1, .int .i64 p.2.2.1, .int .i64 p.2.2.2], .agg #[.int .i64 p.1, .int .i64 p.2.1, .int .i64 p.2.2.1, .int .i64 p.2.2.2]] w fun e w' => e = .returned (.bool true) ∧ Below w.heap.size w w' := by
  obtain ⟨a0, a1, a2, a3⟩ := p
  go_enter Tryz.func65, Tryz.ntmps65
  go_wp2
  go_ret
  refine ⟨rfl, ?_⟩
  repeat (first | exact Below.refl _ _ | refine Below.alloc ?_ (by simp) _)
set_option maxHeartbeats 400000 in
theorem eqEdgeS_same (v1 v2 : Value) (xs : List Ed) (w : World) (hv1 : SlE w cEd 4 v1 xs) (hv2 : SlE w cEd 4 v2 xs) :
    Calls Tryz.prog 37 #[v1, v2] w fun e w' => e = .returned (.bool true) ∧ Below w.heap.size w w' := by
  obtain ⟨A1, c1, rfl, hl1, hm1, hx1⟩ := hv1
  obtain ⟨A2, c2, rfl, hl2, hm2, hx2⟩ := hv2
  unfold maxLen at hm1 hm2
  go_enter Tryz.func37, Tryz.ntmps37
  go_wp2
  go_loopw [5] (fun i wr => ∃ (k : Nat) (u : World), k ≤ xs.length ∧ i = .int .i64 k ∧ wr = ext w u) (fun i _ => xs.length - (intOf i).toNat)
  case atStart => exact ⟨0, w, Nat.zero_le _, rfl, ext_self w⟩
  case round =>
    obtain ⟨k, u, hk, rfl, rfl⟩ := hrel
    by_cases hlt : k < xs.length
    · obtain ⟨b1, o1, rfl, -, hb1, hc1⟩ := hx1 k xs[k] (List.getElem?_eq_getElem hlt)
      obtain ⟨b2, o2, rfl, -, hb2, hc2⟩ := hx2 k xs[k] (List.getElem?_eq_getElem hlt)
      generalize xs[k] = x at hc1 hc2
      have c10 := hc1 0 _ rfl
      have c11 := hc1 1 _ rfl
      have c12 := hc1 2 _ rfl
      have c13 := hc1 3 _ rfl
      have c20 := hc2 0 _ rfl
      have c21 := hc2 1 _ rfl
      have c22 := hc2 2 _ rfl
      have c23 := hc2 3 _ rfl
      simp only [Nat.add_zero] at c10 c20
      clear hc1 hc2 hx1 hx2
      go_wp2
      refine wp_region_ext_lit (by kernel_rfl) (by kernel_rfl) ?_
      repeat (go_big_quiet_step ((go_at_call 65; exact Calls.ext_of (eqEdge_same x _))))
      refine wpQuiet_nil ?_
      intro _ hw'
      obtain ⟨u2, hw''⟩ := hw'
      subst hw''
      go_wp2
      go_roundw
      case rel =>
        obtain ⟨y, hy⟩ := ext_ext w u u2
        exact ⟨k + 1, y, by omega, by go_num, hy⟩
      case measure => simp [intOf]; omega
    · go_wp2
      go_ret
      exact ⟨rfl, ext_below _ _⟩
def mkEdge (k : Int) (n : Nat) : List Ed := (List.range n).map fun (i : Nat) => (k + 4 * (i : Int), k + 4 * (i : Int) + 1, k + 4 * (i : Int) + 1 + 1, k + 4 * (i : Int) + 1 + 1 + 1)
theorem mkEdge_len (k : Int) (n : Nat) : (mkEdge k n).length = n := by simp [mkEdge]
theorem mkEdge_succ (k : Int) (i : Nat) : mkEdge k (i + 1) = mkEdge k i ++ [(k + 4 * (i : Int), k + 4 * (i : Int) + 1, k + 4 * (i : Int) + 1 + 1, k + 4 * (i : Int) + 1 + 1 + 1)] := by simp [mkEdge, List.range_succ]
theorem mkEdge_at (k : Int) {n i : Nat} (h : i < n) : (mkEdge k n)[i]? = some (k + 4 * (i : Int), k + 4 * (i : Int) + 1, k + 4 * (i : Int) + 1 + 1, k + 4 * (i : Int) + 1 + 1 + 1) := by simp [mkEdge, h]
theorem flatEdge_len (l : List Ed) : (l.flatMap cEd).length = l.length * 4 := by
  induction l with
  | nil => rfl
  | cons x l ih => simp only [List.flatMap_cons, List.length_append, cEd_len, ih, List.length_cons]; omega
theorem markEdge_step (k : Int) (xs : List Ed) (i : Nat) (hi : i < xs.length) :
    ((((((mkEdge k i ++ xs.drop i).flatMap cEd).set (i * 4) (.int .i64 (k + 4 * (i : Int)))).set (i * 4 + 1) (.int .i64 (k + 4 * (i : Int) + 1))).set (i * 4 + 2) (.int .i64 (k + 4 * (i : Int) + 1 + 1))).set (i * 4 + 3) (.int .i64 (k + 4 * (i : Int) + 1 + 1 + 1))) = (mkEdge k (i + 1) ++ xs.drop (i + 1)).flatMap cEd := by
  rw [List.drop_eq_getElem_cons hi, mkEdge_succ]
  have hl : ((mkEdge k i).flatMap cEd).length = i * 4 := by rw [flatEdge_len, mkEdge_len]
  simp only [List.flatMap_append, List.flatMap_cons, List.flatMap_nil, List.append_nil, List.append_assoc]
  rw [List.set_append_right _ _ (by omega), List.set_append_right _ _ (by omega), List.set_append_right _ _ (by omega), List.set_append_right _ _ (by omega), hl]
  simp [cEd]
set_option maxHeartbeats 4000000 in
theorem markEdgeS_any (lo hi : Nat) (e : TypeId) (v : Value) (xs : List Ed) (k : Int) (w : World) (hv : Own lo hi w e cEd 4 v xs) (hk : 0 ≤ k) (hb : k + 4 * xs.length ≤ 4611686018427387904) :
    Calls Tryz.prog 41 #[v, .int .i64 k] w fun en w' => en = .returned (.int .i64 (k + 4 * xs.length)) ∧ Own lo hi w' e cEd 4 v (mkEdge k xs.length) ∧ Only lo hi w w' := by
  obtain ⟨hr, hlt⟩ := hv
  have hr0 := hr
  obtain ⟨hl, hs⟩ := hr0
  rcases hs with ⟨rfl, hn⟩ | ⟨g, cap, cur, rfl, hg, hh, hnc, hcm, hsz, htk⟩
  · obtain rfl : xs = [] := List.eq_nil_of_length_eq_zero hn
    clear hl hr hn hlt
    go_enter Tryz.func41, Tryz.ntmps41
    go_wp2
    go_loopw [1, 5] (fun kk ii wr => kk = .int .i64 k ∧ ii = .int .i64 0 ∧ wr = w) (fun _ _ _ => 0)
    case atStart => exact ⟨rfl, rfl, rfl⟩
    case round =>
      obtain ⟨rfl, rfl, rfl⟩ := hrel
      go_wp2
      go_ret
      exact ⟨by simp, by simpa [mkEdge] using Own.nil lo hi wr e cEd 4, Only.refl _ _ _⟩
  · have hglt := hlt g rfl
    unfold maxLen at hcm
    have HL := Lib.hid hl
    clear hh htk hsz hlt hl
    go_enter Tryz.func41, Tryz.ntmps41
    go_wp2
    go_loopw [1, 5] (fun kk ii wr => ∃ i : Nat, i ≤ xs.length ∧ kk = .int .i64 (k + 4 * i) ∧ ii = .int .i64 i ∧ wr.ownsRow lo e 4 (.slice (some ⟨g, 0, none⟩) xs.length cap) xs.length ((mkEdge k i ++ xs.drop i).flatMap cEd) ∧ Only lo hi w wr) (fun _ ii _ => xs.length - (intOf ii).toNat)
    case atStart => exact ⟨0, Nat.zero_le _, by simp, rfl, by simpa [mkEdge] using hr, Only.refl _ _ _⟩
    case round =>
      obtain ⟨i, hi', rfl, rfl, hrow, honly⟩ := hrel
      by_cases hlt : i < xs.length
      · have hrow0 := hrow
        have hc0 := World.ownsRow.cellAt hrow (i * 4) (by omega)
        have hf0 := World.ownsRow.frozenAt hrow (i * 4)
        have hc1 := World.ownsRow.cellAt hrow (i * 4 + 1) (by omega)
        have hf1 := World.ownsRow.frozenAt hrow (i * 4 + 1)
        have hc2 := World.ownsRow.cellAt hrow (i * 4 + 2) (by omega)
        have hf2 := World.ownsRow.frozenAt hrow (i * 4 + 2)
        have hc3 := World.ownsRow.cellAt hrow (i * 4 + 3) (by omega)
        have hf3 := World.ownsRow.frozenAt hrow (i * 4 + 3)
        have hst := (World.ownsRow.stored (World.ownsRow.stored (World.ownsRow.stored (World.ownsRow.stored hrow0 (i * 4) (.int .i64 (k + 4 * (i : Int)))).1 (i * 4 + 1) (.int .i64 (k + 4 * (i : Int) + 1))).1 (i * 4 + 2) (.int .i64 (k + 4 * (i : Int) + 1 + 1))).1 (i * 4 + 3) (.int .i64 (k + 4 * (i : Int) + 1 + 1 + 1))).1
        rw [markEdge_step k xs i hlt] at hst
        have HST := Lib.hid hst
        have hxi : (mkEdge k i ++ xs.drop i)[i]? = some xs[i] := by
          rw [List.getElem?_append_right (by simp [mkEdge_len]), mkEdge_len]; simp [hlt]
        have hcx0 : ((mkEdge k i ++ xs.drop i).flatMap cEd)[i * 4]? = some (.int .i64 xs[i].1) := flat_at cEd_len hxi 0 _ rfl
        rw [hcx0] at hc0
        have hcx1 : ((mkEdge k i ++ xs.drop i).flatMap cEd)[i * 4 + 1]? = some (.int .i64 xs[i].2.1) := flat_at cEd_len hxi 1 _ rfl
        rw [hcx1] at hc1
        have hcx2 : ((mkEdge k i ++ xs.drop i).flatMap cEd)[i * 4 + 2]? = some (.int .i64 xs[i].2.2.1) := flat_at cEd_len hxi 2 _ rfl
        rw [hcx2] at hc2
        have hcx3 : ((mkEdge k i ++ xs.drop i).flatMap cEd)[i * 4 + 3]? = some (.int .i64 xs[i].2.2.2) := flat_at cEd_len hxi 3 _ rfl
        rw [hcx3] at hc3
        clear hcx0 hcx1 hcx2 hcx3 hxi hst hrow hrow0 hr
        go_wp2
        go_roundw
        case rel => exact ⟨i + 1, by omega, by go_num, by go_num, HST.out, ((((honly.setCell (.inl ⟨hg, hglt⟩) _).setCell (.inl ⟨hg, hglt⟩) _).setCell (.inl ⟨hg, hglt⟩) _).setCell (.inl ⟨hg, hglt⟩) _)⟩
        case measure => simp [intOf]; omega
      · obtain rfl : i = xs.length := by omega
        have hown : Own lo hi wr e cEd 4 (.slice (some ⟨g, 0, none⟩) xs.length cap) (mkEdge k xs.length) := by
          refine ⟨?_, fun g' hg' => by cases hg'; exact hglt⟩
          rw [mkEdge_len]
          simpa using hrow
        clear hrow hr
        go_wp2
        go_ret
        exact ⟨rfl, hown, honly⟩
theorem toEdge_any (p : Ed) (w : World) :
    Calls Tryz.prog 60 #[.agg #[.int .i64 p.1, .int .i64 p.2.1, .int .i64 p.2.2.1, .int .i64 p.2.2.2]] w fun e w' => e = .returned (.agg #[.int .i64 p.1, .int .i64 p.2.1, .int .i64 p.2.2.1, .int .i64 p.2.2.2]) ∧ Below w.heap.size w w' := by
  obtain ⟨a0, a1, a2, a3⟩ := p
  go_enter Tryz.func60, Tryz.ntmps60
  go_wp2
  refine bodyPost_ret (v := .agg #[.int .i64 a0, .int .i64 a1, .int .i64 a2, .int .i64 a3]) (by simp [results, Tryz.results60, go_sem]) rfl ⟨rfl, ?_⟩
  repeat (first | exact Below.refl _ _ | refine Below.setCell ?_ (by simp <;> omega) _ | refine Below.alloc ?_ (by simp <;> omega) _)
theorem szEdgeS_any (A : Option Addr) (n c : Nat) (left : Int) (w : World) (hn : n ≤ maxLen) (h0 : 0 ≤ left) (h1 : left ≤ 1048576) :
    Calls Tryz.prog 24 #[.slice A n c, .int .i64 left] w fun e w' => e = .returned (.int .i64 (if left < n then -1 else left - n)) ∧ w' = w := by
  unfold maxLen at hn
  by_cases hlt : left < n
  · rw [if_pos hlt]
    go_enter Tryz.func24, Tryz.ntmps24
    go_wp2
    go_ret
    exact ⟨rfl, rfl⟩
  · rw [if_neg hlt]
    go_enter Tryz.func24, Tryz.ntmps24
    go_wp2
    go_ret
    exact ⟨rfl, rfl⟩
theorem elEdge : ElemOk Tryz.prog 34 89 (.agg #[.int .i64 0, .int .i64 0, .int .i64 0, .int .i64 0]) 4 32 := ⟨Tryz.underlying34, by kernel_rfl, rfl, by omega⟩
theorem toEdge_step (xs : List Ed) (i : Nat) (x : Ed) (hx : xs[i]? = some x) :
    ((((((xs.take i ++ List.replicate (xs.length - i) (0, 0, 0, 0)).flatMap cEd).set (i * 4) (.int .i64 x.1)).set (i * 4 + 1) (.int .i64 x.2.1)).set (i * 4 + 2) (.int .i64 x.2.2.1)).set (i * 4 + 3) (.int .i64 x.2.2.2)) = (xs.take (i + 1) ++ List.replicate (xs.length - (i + 1)) (0, 0, 0, 0)).flatMap cEd := by
  have hi := (List.getElem?_eq_some_iff.1 hx).1
  rw [take_snoc hx, show xs.length - i = (xs.length - (i + 1)) + 1 by omega, List.replicate_succ]
  have hl : ((xs.take i).flatMap cEd).length = i * 4 := by rw [flatEdge_len, List.length_take]; congr 1; omega
  simp only [List.flatMap_append, List.flatMap_cons, List.flatMap_nil, List.append_nil, List.append_assoc]
  rw [List.set_append_right _ _ (by omega), List.set_append_right _ _ (by omega), List.set_append_right _ _ (by omega), List.set_append_right _ _ (by omega), hl]
  simp [cEd]
set_option maxHeartbeats 1000000 in
theorem toEdgeS_any (v : Value) (xs : List Ed) (w : World) (hv : SlE w cEd 4 v xs) (hn : xs.length ≤ 1048576) :
    Calls Tryz.prog 30 #[v] w fun en w' => ∃ v', en = .returned v' ∧ Own w.heap.size w'.heap.size w' 89 cEd 4 v' xs ∧ Below w.heap.size w w' := by
  obtain ⟨A, c, rfl, hl, hm, hx⟩ := hv
  go_enter Tryz.func30, Tryz.ntmps30
  go_wp2_with (at_make; refine wpList_makeE (P := Tryz.prog) cEd (0, 0, 0, 0) elEdge rfl rfl rfl _ _ rfl w.heap.size xs.length _ (by rfl) (by rfl) rfl (by omega) (by unfold maxLen; omega) (Nat.le_refl _) ?_; intro w1 hrow1 hbel1)
  go_loopw [4] (fun ii wr => ∃ i : Nat, i ≤ xs.length ∧ ii = .int .i64 i ∧ wr.ownsRow w.heap.size 89 4 (.slice (some ⟨w.heap.size, 0, none⟩) xs.length xs.length) xs.length ((xs.take i ++ List.replicate (xs.length - i) (0, 0, 0, 0)).flatMap cEd) ∧ Below w.heap.size w wr) (fun ii _ => xs.length - (intOf ii).toNat)
  case atStart => exact ⟨0, Nat.zero_le _, rfl, by simpa using hrow1, hbel1⟩
  case round =>
    obtain ⟨i, hi', rfl, hrow, hbel⟩ := hrel
    by_cases hlt : i < xs.length
    · have hxi : xs[i]? = some xs[i] := List.getElem?_eq_getElem hlt
      obtain ⟨b, o, rfl, -, hb1, hc⟩ := hx i _ hxi
      have hstep := toEdge_step xs i _ hxi
      have hcur : (xs.take i ++ List.replicate (xs.length - i) (0, 0, 0, 0))[i]? = some (0, 0, 0, 0) := by
        rw [List.getElem?_append_right (by rw [List.length_take]; omega), List.getElem?_replicate, if_pos (by rw [List.length_take]; omega)]
      generalize xs[i] = x at hc hstep hxi
      have hs := hbel.size
      have c0 := (hbel.cell (p := ⟨b, o + i * 4 + 0, none⟩) hb1).trans (hc 0 _ rfl)
      have c1 := (hbel.cell (p := ⟨b, o + i * 4 + 1, none⟩) hb1).trans (hc 1 _ rfl)
      have c2 := (hbel.cell (p := ⟨b, o + i * 4 + 2, none⟩) hb1).trans (hc 2 _ rfl)
      have c3 := (hbel.cell (p := ⟨b, o + i * 4 + 3, none⟩) hb1).trans (hc 3 _ rfl)
      simp only [Nat.add_zero] at c0
      clear hc hx hxi hrow1 hbel1
      go_wp2_with fail
      refine (toEdge_any x _).mono ?_; rintro e w2 ⟨rfl, hb2⟩
      have hrow2 := ownsRow_below hrow hb2 (Nat.le_refl _)
      have d0 := World.ownsRow.cellAt hrow2 (i * 4) (by omega)
      have f0 := World.ownsRow.frozenAt hrow2 (i * 4)
      have e0 := flat_at cEd_len hcur 0 _ rfl
      simp only [Nat.add_zero] at e0
      rw [e0] at d0
      clear e0
      have d1 := World.ownsRow.cellAt hrow2 (i * 4 + 1) (by omega)
      have f1 := World.ownsRow.frozenAt hrow2 (i * 4 + 1)
      have e1 := flat_at cEd_len hcur 1 _ rfl
      rw [e1] at d1
      clear e1
      have d2 := World.ownsRow.cellAt hrow2 (i * 4 + 2) (by omega)
      have f2 := World.ownsRow.frozenAt hrow2 (i * 4 + 2)
      have e2 := flat_at cEd_len hcur 2 _ rfl
      rw [e2] at d2
      clear e2
      have d3 := World.ownsRow.cellAt hrow2 (i * 4 + 3) (by omega)
      have f3 := World.ownsRow.frozenAt hrow2 (i * 4 + 3)
      have e3 := flat_at cEd_len hcur 3 _ rfl
      rw [e3] at d3
      clear e3
      have hst := (World.ownsRow.stored (World.ownsRow.stored (World.ownsRow.stored (World.ownsRow.stored hrow2 (i * 4) (.int .i64 x.1)).1 (i * 4 + 1) (.int .i64 x.2.1)).1 (i * 4 + 2) (.int .i64 x.2.2.1)).1 (i * 4 + 3) (.int .i64 x.2.2.2)).1
      rw [hstep] at hst
      have HST := Lib.hid hst
      clear hst hstep hcur hrow hrow2
      go_wp2
      go_roundw
      case rel => exact ⟨i + 1, by omega, by go_num, HST.out, (((((hbel.trans (hb2.mono hs)).setCell (Nat.le_refl _) _).setCell (Nat.le_refl _) _).setCell (Nat.le_refl _) _).setCell (Nat.le_refl _) _)⟩
      case measure => simp [intOf]; omega
    · obtain rfl : i = xs.length := by omega
      go_wp2
      go_ret
      exact ⟨_, rfl, Own.of_row hrow rfl (by simp), hbel⟩
end Go.Proofs.YtpbfdmfkmbdpkaaGreat

/- Graphs in the laws' helpers: measured, copied, compared, marked. -/
namespace Go.Proofs.YtpbfdmfkmbdpkaaGreat
set_option linter.unusedVariables false
set_option linter.unusedSimpArgs false
open Go.ChangeShapes Go.WideShapes Go.ChangeAt Go.RowKit
attribute [local go_sem] ext_cell ext_frozen ext_lt ext_lt1 ext_lt2 ext_lt3 ltn2 ltn3 ltn13 lts1 lts2 lts3

def GrO (lo hi : Nat) (w : World) (v : Value) (g : Gr) : Prop :=
  ∃ vs es mid, v = .agg #[vs, es] ∧ Own lo mid w 3 cI 1 vs g.vals ∧ Own mid hi w 89 cEd 4 es g.edges ∧ lo ≤ mid ∧ mid ≤ hi
theorem GrO.view {lo hi : Nat} {w : World} {v : Value} {g : Gr} (h : GrO lo hi w v g) : GrV lo hi w v g := by
  obtain ⟨vs, es, mid, rfl, h1, h2, h3, h4⟩ := h
  exact ⟨vs, es, rfl, (h1.sl cI_len).mono (Nat.le_refl _) h4, (h2.sl cEd_len).mono h3 (Nat.le_refl _)⟩
theorem GrO.below {lo hi : Nat} {w w' : World} {v : Value} {g : Gr} (h : GrO lo hi w v g) {B : Nat} (hb : Below B w w') (hB : hi ≤ B) : GrO lo hi w' v g := by
  obtain ⟨vs, es, mid, rfl, h1, h2, h3, h4⟩ := h
  exact ⟨vs, es, mid, rfl, h1.below hb (by omega), h2.below hb hB, h3, h4⟩

def szGr (g : Gr) (left : Int) : Int := if left < g.vals.length then -1 else if left - g.vals.length < g.edges.length then -1 else left - g.vals.length - g.edges.length

theorem szGr_le (g : Gr) (left : Int) (h : ¬ szGr g left < 0) : g.vals.length ≤ left.toNat ∧ g.edges.length ≤ left.toNat ∧ 0 ≤ szGr g left ∧ szGr g left ≤ left := by
  unfold szGr at h ⊢
  split at h
  · omega
  · split at h
    · omega
    · rw [if_neg (by omega), if_neg (by omega)]; omega

theorem szGraph_any (v : Value) (g : Gr) (left : Int) (w : World) (hv : GrV 0 w.heap.size w v g) (h0 : 0 ≤ left) (h1 : left ≤ 1048576) :
    Calls Tryz.prog 5 #[v, .int .i64 left] w fun e w' => e = .returned (.int .i64 (szGr g left)) ∧ Below w.heap.size w w' := by
  obtain ⟨vs, es, rfl, ⟨A1, c1, rfl, hl1, hm1, -⟩, ⟨A2, c2, rfl, hl2, hm2, -⟩⟩ := hv
  by_cases g1 : left < g.vals.length
  · rw [szGr, if_pos g1]
    have hc := szIntS_any A1 g.vals.length c1 left
    rw [if_pos g1] at hc
    have HC := Lib.hid hc
    clear hc
    go_enter Tryz.func5, Tryz.ntmps5
    go_wp2_with fail
    refine (HC.out _ (by omega) h0 h1).mono ?_; rintro e w1 ⟨rfl, rfl⟩
    go_wp2
    go_ret
    exact ⟨rfl, (Below.refl _ _).alloc (Nat.le_refl _) _⟩
  · rw [szGr, if_neg g1]
    have hc := szIntS_any A1 g.vals.length c1 left
    rw [if_neg g1] at hc
    have HC := Lib.hid hc
    clear hc
    by_cases g2 : left - g.vals.length < g.edges.length
    · rw [if_pos g2]
      have hd := szEdgeS_any A2 g.edges.length c2 (left - g.vals.length)
      rw [if_pos g2] at hd
      have HD := Lib.hid hd
      clear hd
      go_enter Tryz.func5, Tryz.ntmps5
      go_wp2_with fail
      refine (HC.out _ (by omega) h0 h1).mono ?_; rintro e w1 ⟨rfl, rfl⟩
      go_wp2_with fail
      refine (HD.out _ (by omega) (by omega) (by omega)).mono ?_; rintro e w1 ⟨rfl, rfl⟩
      go_wp2
      go_ret
      exact ⟨rfl, (Below.refl _ _).alloc (Nat.le_refl _) _⟩
    · rw [if_neg g2]
      have hd := szEdgeS_any A2 g.edges.length c2 (left - g.vals.length)
      rw [if_neg g2] at hd
      have HD := Lib.hid hd
      clear hd
      go_enter Tryz.func5, Tryz.ntmps5
      go_wp2_with fail
      refine (HC.out _ (by omega) h0 h1).mono ?_; rintro e w1 ⟨rfl, rfl⟩
      go_wp2_with fail
      refine (HD.out _ (by omega) (by omega) (by omega)).mono ?_; rintro e w1 ⟨rfl, rfl⟩
      go_wp2
      go_ret
      exact ⟨rfl, (Below.refl _ _).alloc (Nat.le_refl _) _⟩

set_option maxHeartbeats 4000000 in
theorem toGraph_any (v : Value) (g : Gr) (w : World) (hv : GrV 0 w.heap.size w v g) (h1 : g.vals.length ≤ 1048576) (h2 : g.edges.length ≤ 1048576) :
    Calls Tryz.prog 8 #[v] w fun e w' => ∃ v', e = .returned v' ∧ GrO w.heap.size w'.heap.size w' v' g ∧ Below w.heap.size w w' := by
  obtain ⟨vs, es, rfl, hvs, hes⟩ := hv
  go_enter Tryz.func8, Tryz.ntmps8
  go_wp2_with fail
  refine (toIntS_any vs g.vals _ ?_ h1).mono ?_
  · exact SlE.keep hvs (by repeat (first | exact Below.refl _ _ | refine Below.alloc ?_ (by simp <;> omega) _))
  rintro e w1 ⟨v1, rfl, ho1', hb1⟩
  have b0 := (((Blk.new w _ _ w.heap.size rfl).alloc _).alloc _).keep hb1
  have b1 := ((Blk.new (w.alloc _) _ _ (w.heap.size + 1) (by simp)).alloc _).keep hb1
  have b2 := (Blk.new ((w.alloc _).alloc _) _ _ (w.heap.size + 1 + 1) (by simp)).keep hb1
  have o1 : Only w.heap.size (w.heap.size + 3) w w1 := (((Only.refl _ _ _).alloc _).alloc _ |>.alloc _).trans (Only.of_below hb1 _ _)
  have ho1 : Own (w.heap.size + 3) w1.heap.size w1 _ cI 1 v1 g.vals := ho1'.mono (by simp) (Nat.le_refl _)
  clear ho1'
  obtain ⟨A1, n1, c1, rfl⟩ := ho1.shape
  have s1 : w.heap.size + 3 ≤ w1.heap.size := by have := hb1.size; simpa using this
  clear hb1
  have x0 : w1.cell? ⟨w.heap.size, 1, none⟩ = some es := b0.cell 1
  have x2 : w1.cell? ⟨w.heap.size + 1 + 1, 0, none⟩ = some (.slice none 0 0) := b2.cell 0
  have y2 := b2.frozen 0
  go_wp2_with fail
  refine (toEdgeS_any es g.edges _ ?_ h2).mono ?_
  · exact SlE.keep hes ((o1.setCell (.inl (by simp <;> omega)) _).below (Nat.le_refl _) (Nat.le_refl _))
  rintro e w2 ⟨v2, rfl, ho2', hb2⟩
  clear x0 x2 y2
  have o2 := (o1.setCell (p := ⟨w.heap.size + 1 + 1, 0, none⟩) (.inl (by simp <;> omega)) (.slice A1 n1 c1)).trans (Only.of_below hb2 _ _)
  have b1 := (b1.far (p := ⟨w.heap.size + 1 + 1, 0, none⟩) (by simp) (.slice A1 n1 c1)).keep hb2
  have b2 := (b2.set_ 0 (.slice A1 n1 c1)).keep hb2
  have s2 : w1.heap.size ≤ w2.heap.size := by have := hb2.size; simpa using this
  have ho2 : Own w1.heap.size w2.heap.size w2 _ cEd 4 v2 g.edges := ho2'.mono (by simp) (Nat.le_refl _)
  have ho1 := (ho1.only ((Only.refl w.heap.size (w.heap.size + 3) _).setCell (p := ⟨w.heap.size + 1 + 1, 0, none⟩) (.inl (by simp <;> omega)) (.slice A1 n1 c1)) (.inr (Nat.le_refl _))).below hb2 (by simp)
  obtain ⟨A2, n2, c2, rfl⟩ := ho2.shape
  have x1 : w2.cell? ⟨w.heap.size + 1, 0, none⟩ = some (.slice none 0 0) := b1.cell 0
  have x2 : w2.cell? ⟨w.heap.size + 1, 1, none⟩ = some (.slice none 0 0) := b1.cell 1
  have x3 : w2.cell? ⟨w.heap.size + 1 + 1, 0, none⟩ = some (.slice A1 n1 c1) := b2.cell 0
  have x4 : w2.cell? ⟨w.heap.size + 1 + 1, 1, none⟩ = some (.slice none 0 0) := b2.cell 1
  have y1 := b1.frozen 0
  have y2 := b1.frozen 1
  have y4 := b2.frozen 1
  clear ho2' hb2 hvs hes
  go_wp2_with fail
  have oz : Only w.heap.size (w.heap.size + 3) w2 _ := (((Only.refl _ _ w2).setCell (p := ⟨w.heap.size + 1 + 1, 1, none⟩) (.inl (by simp <;> omega)) (.slice A2 n2 c2)).setCell (p := ⟨w.heap.size + 1, 0, none⟩) (.inl (by simp <;> omega)) (.slice A1 n1 c1)).setCell (p := ⟨w.heap.size + 1, 1, none⟩) (.inl (by simp <;> omega)) (.slice A2 n2 c2)
  refine bodyPost_ret (v := .agg #[.slice A1 n1 c1, .slice A2 n2 c2]) (by simp [results, Tryz.results8, go_sem, x1, x2]) rfl ⟨_, rfl, ⟨_, _, w1.heap.size, rfl, (ho1.only oz (.inr (Nat.le_refl _))).mono (by omega) (Nat.le_refl _), (ho2.only oz (.inr s1)).mono (Nat.le_refl _) (by simp), by omega, by simp <;> omega⟩, (o2.trans oz).below (Nat.le_refl _) (Nat.le_refl _)⟩

set_option maxHeartbeats 1000000 in
theorem eqGraph_same (v1 v2 : Value) (g : Gr) (w : World) (hv1 : GrV 0 w.heap.size w v1 g) (hv2 : GrV 0 w.heap.size w v2 g) :
    Calls Tryz.prog 12 #[v1, v2] w fun e w' => e = .returned (.bool true) ∧ Below w.heap.size w w' := by
  obtain ⟨vs1, es1, rfl, hvs1, hes1⟩ := hv1
  obtain ⟨vs2, es2, rfl, hvs2, hes2⟩ := hv2
  have hb0 : Below w.heap.size w ((w.alloc (.cells #[vs1, es1] 36)).alloc (.cells #[vs2, es2] 36)) := ((Below.refl _ _).alloc (Nat.le_refl _) _).alloc (by simp) _
  go_enter Tryz.func12, Tryz.ntmps12
  go_wp2_with fail
  refine (eqIntS_same vs1 vs2 g.vals _ (SlE.keep hvs1 hb0) (SlE.keep hvs2 hb0)).mono ?_
  rintro e w1 ⟨rfl, hb1⟩
  have b0 := ((Blk.new w _ _ w.heap.size rfl).alloc _).keep hb1
  have b1 := (Blk.new (w.alloc _) _ _ (w.heap.size + 1) (by simp)).keep hb1
  have hb2 := below_trans hb0 hb1
  have x0 : w1.cell? ⟨w.heap.size, 1, none⟩ = some es1 := b0.cell 1
  have x1 : w1.cell? ⟨w.heap.size + 1, 1, none⟩ = some es2 := b1.cell 1
  clear hb0 hb1 b0 b1
  go_wp2_with fail
  refine (eqEdgeS_same es1 es2 g.edges _ (SlE.keep hes1 hb2) (SlE.keep hes2 hb2)).mono ?_
  rintro e w2 ⟨rfl, hb3⟩
  go_wp2_with fail
  go_ret
  exact ⟨rfl, below_trans hb2 hb3⟩

set_option maxHeartbeats 1000000 in
theorem markGraph_any (lo hi : Nat) (v : Value) (g : Gr) (k : Int) (w : World) (hv : GrO lo hi w v g) (hw : hi ≤ w.heap.size) (hk : 0 ≤ k) (h1 : g.vals.length ≤ 1048576) (h2 : g.edges.length ≤ 1048576) (hk2 : k ≤ 1099511627776) :
    Calls Tryz.prog 14 #[v, .int .i64 k] w fun e w' => ∃ k', e = .returned (.int .i64 k') ∧ k ≤ k' ∧ k' ≤ k + 8388608 ∧ Only lo hi w w' := by
  obtain ⟨vs, es, mid, rfl, hvs, hes, hm1, hm2⟩ := hv
  have hb0 : Below w.heap.size w (w.alloc (.cells #[vs, es] 36)) := (Below.refl _ _).alloc (Nat.le_refl _) _
  go_enter Tryz.func14, Tryz.ntmps14
  go_wp2_with fail
  refine (markIntS_any lo mid _ vs g.vals k _ (hvs.below hb0 (by omega)) hk (by omega)).mono ?_
  rintro e w1 ⟨rfl, -, ho1⟩
  have b0 := (Blk.new w _ _ w.heap.size rfl).only ho1 (.inr (by omega))
  have x0 : w1.cell? ⟨w.heap.size, 1, none⟩ = some es := b0.cell 1
  have ho2 := (Only.of_below hb0 lo mid).trans ho1
  have hs := ho2.size
  clear hb0 b0
  go_wp2_with fail
  refine (markEdgeS_any mid hi _ es g.edges (k + g.vals.length) _ (hes.only ho2 (.inr (Nat.le_refl _))) (by omega) (by omega)).mono ?_
  rintro e w2 ⟨rfl, -, ho3⟩
  go_wp2_with fail
  go_ret
  exact ⟨_, rfl, by omega, by omega, (ho2.mono (Nat.le_refl _) hm2).trans (ho3.mono hm1 (Nat.le_refl _))⟩
end Go.Proofs.YtpbfdmfkmbdpkaaGreat

/- Bool in the laws' helpers: equal lists are told equal; marking, looking, copying, measuring. -/
namespace Go.Proofs.YtpbfdmfkmbdpkaaGreat
set_option linter.unusedVariables false
set_option linter.unusedSimpArgs false
open Go.ChangeShapes Go.WideShapes Go.ChangeAt Go.RowKit
attribute [local go_sem] ext_cell ext_frozen ext_lt ext_lt1 ext_lt2 ext_lt3 ltn2 ltn3 ltn13 lts1 lts2 lts3

set_option maxHeartbeats 400000 in
theorem eqBoolS_same (v1 v2 : Value) (xs : List Bool) (w : World) (hv1 : SlE w cB 1 v1 xs) (hv2 : SlE w cB 1 v2 xs) :
    Calls Tryz.prog 38 #[v1, v2] w fun e w' => e = .returned (.bool true) ∧ Below w.heap.size w w' := by
  obtain ⟨A1, c1, rfl, hl1, hm1, hx1⟩ := hv1
  obtain ⟨A2, c2, rfl, hl2, hm2, hx2⟩ := hv2
  unfold maxLen at hm1 hm2
  go_enter Tryz.func38, Tryz.ntmps38
  go_wp2
  go_loopw [5] (fun i wr => ∃ (k : Nat) (u : World), k ≤ xs.length ∧ i = .int .i64 k ∧ wr = ext w u) (fun i _ => xs.length - (intOf i).toNat)
  case atStart => exact ⟨0, w, Nat.zero_le _, rfl, ext_self w⟩
  case round =>
    obtain ⟨k, u, hk, rfl, rfl⟩ := hrel
    by_cases hlt : k < xs.length
    · obtain ⟨b1, o1, rfl, -, hb1, hc1⟩ := hx1 k xs[k] (List.getElem?_eq_getElem hlt)
      obtain ⟨b2, o2, rfl, -, hb2, hc2⟩ := hx2 k xs[k] (List.getElem?_eq_getElem hlt)
      generalize xs[k] = x at hc1 hc2
      have c10 := hc1 0 _ rfl
      have c20 := hc2 0 _ rfl
      simp only [Nat.add_zero, Nat.mul_one] at c10 c20
      clear hc1 hc2 hx1 hx2
      go_wp2
      refine wp_region_ext_lit (by kernel_rfl) (by kernel_rfl) ?_
      repeat (go_big_quiet_step (fail))
      refine wpQuiet_nil ?_
      intro _ hw'
      obtain ⟨u2, hw''⟩ := hw'
      subst hw''
      go_wp2
      go_roundw
      case rel =>
        obtain ⟨y, hy⟩ := ext_ext w u u2
        exact ⟨k + 1, y, by omega, by go_num, hy⟩
      case measure => simp [intOf]; omega
    · go_wp2
      go_ret
      exact ⟨rfl, ext_below _ _⟩
def mkBool (k : Int) (n : Nat) : List Bool := (List.range n).map fun (i : Nat) => ((k + (i : Int)) % 3 == 0)
theorem mkBool_len (k : Int) (n : Nat) : (mkBool k n).length = n := by simp [mkBool]
theorem mkBool_succ (k : Int) (i : Nat) : mkBool k (i + 1) = mkBool k i ++ [((k + (i : Int)) % 3 == 0)] := by simp [mkBool, List.range_succ]
theorem mkBool_at (k : Int) {n i : Nat} (h : i < n) : (mkBool k n)[i]? = some (((k + (i : Int)) % 3 == 0)) := by simp [mkBool, h]
theorem flatBool_len (l : List Bool) : (l.flatMap cB).length = l.length * 1 := by
  induction l with
  | nil => rfl
  | cons x l ih => simp only [List.flatMap_cons, List.length_append, cB_len, ih, List.length_cons]; omega
theorem markBool_step (k : Int) (xs : List Bool) (i : Nat) (hi : i < xs.length) :
    (((mkBool k i ++ xs.drop i).flatMap cB).set (i) (.bool (((k + (i : Int)) % 3 == 0)))) = (mkBool k (i + 1) ++ xs.drop (i + 1)).flatMap cB := by
  rw [List.drop_eq_getElem_cons hi, mkBool_succ]
  have hl : ((mkBool k i).flatMap cB).length = i := by rw [flatBool_len, mkBool_len]; omega
  simp only [List.flatMap_append, List.flatMap_cons, List.flatMap_nil, List.append_nil, List.append_assoc]
  rw [List.set_append_right _ _ (by omega), hl]
  simp [cB]
set_option maxHeartbeats 4000000 in
theorem markBoolS_any (lo hi : Nat) (e : TypeId) (v : Value) (xs : List Bool) (k : Int) (w : World) (hv : Own lo hi w e cB 1 v xs) (hk : 0 ≤ k) (hb : k + 1 * xs.length ≤ 4611686018427387904) :
    Calls Tryz.prog 42 #[v, .int .i64 k] w fun en w' => en = .returned (.int .i64 (k + xs.length)) ∧ Own lo hi w' e cB 1 v (mkBool k xs.length) ∧ Only lo hi w w' := by
  obtain ⟨hr, hlt⟩ := hv
  have hr0 := hr
  obtain ⟨hl, hs⟩ := hr0
  rcases hs with ⟨rfl, hn⟩ | ⟨g, cap, cur, rfl, hg, hh, hnc, hcm, hsz, htk⟩
  · obtain rfl : xs = [] := List.eq_nil_of_length_eq_zero hn
    clear hl hr hn hlt
    go_enter Tryz.func42, Tryz.ntmps42
    go_wp2
    go_loopw [1, 5] (fun kk ii wr => kk = .int .i64 k ∧ ii = .int .i64 0 ∧ wr = w) (fun _ _ _ => 0)
    case atStart => exact ⟨rfl, rfl, rfl⟩
    case round =>
      obtain ⟨rfl, rfl, rfl⟩ := hrel
      go_wp2
      go_ret
      exact ⟨by simp, by simpa [mkBool] using Own.nil lo hi wr e cB 1, Only.refl _ _ _⟩
  · have hglt := hlt g rfl
    unfold maxLen at hcm
    have HL := Lib.hid hl
    clear hh htk hsz hlt hl
    go_enter Tryz.func42, Tryz.ntmps42
    go_wp2
    go_loopw [1, 5] (fun kk ii wr => ∃ i : Nat, i ≤ xs.length ∧ kk = .int .i64 (k + i) ∧ ii = .int .i64 i ∧ wr.ownsRow lo e 1 (.slice (some ⟨g, 0, none⟩) xs.length cap) xs.length ((mkBool k i ++ xs.drop i).flatMap cB) ∧ Only lo hi w wr) (fun _ ii _ => xs.length - (intOf ii).toNat)
    case atStart => exact ⟨0, Nat.zero_le _, by simp, rfl, by simpa [mkBool] using hr, Only.refl _ _ _⟩
    case round =>
      obtain ⟨i, hi', rfl, rfl, hrow, honly⟩ := hrel
      by_cases hlt : i < xs.length
      · have hrow0 := hrow
        have hc0 := World.ownsRow.cellAt hrow (i) (by omega)
        have hf0 := World.ownsRow.frozenAt hrow (i)
        have hst := (World.ownsRow.stored hrow0 (i) (.bool (((k + (i : Int)) % 3 == 0)))).1
        rw [markBool_step k xs i hlt] at hst
        have HST := Lib.hid hst
        have hxi : (mkBool k i ++ xs.drop i)[i]? = some xs[i] := by
          rw [List.getElem?_append_right (by simp [mkBool_len]), mkBool_len]; simp [hlt]
        have hcx0 : ((mkBool k i ++ xs.drop i).flatMap cB)[i]? = some (.bool xs[i]) := by
          have := flat_at cB_len hxi 0 _ rfl
          simpa using this
        rw [hcx0] at hc0
        clear hcx0 hxi hst hrow hrow0 hr
        go_wp2
        go_roundw
        case rel => exact ⟨i + 1, by omega, by go_num, by go_num, HST.out, (honly.setCell (.inl ⟨hg, hglt⟩) _)⟩
        case measure => simp [intOf]; omega
      · obtain rfl : i = xs.length := by omega
        have hown : Own lo hi wr e cB 1 (.slice (some ⟨g, 0, none⟩) xs.length cap) (mkBool k xs.length) := by
          refine ⟨?_, fun g' hg' => by cases hg'; exact hglt⟩
          rw [mkBool_len]
          simpa using hrow
        clear hrow hr
        go_wp2
        go_ret
        exact ⟨rfl, hown, honly⟩
theorem szBoolS_any (A : Option Addr) (n c : Nat) (left : Int) (w : World) (hn : n ≤ maxLen) (h0 : 0 ≤ left) (h1 : left ≤ 1048576) :
    Calls Tryz.prog 25 #[.slice A n c, .int .i64 left] w fun e w' => e = .returned (.int .i64 (if left < n then -1 else left - n)) ∧ w' = w := by
  unfold maxLen at hn
  by_cases hlt : left < n
  · rw [if_pos hlt]
    go_enter Tryz.func25, Tryz.ntmps25
    go_wp2
    go_ret
    exact ⟨rfl, rfl⟩
  · rw [if_neg hlt]
    go_enter Tryz.func25, Tryz.ntmps25
    go_wp2
    go_ret
    exact ⟨rfl, rfl⟩
theorem elBool : ElemOk Tryz.prog 26 4 (.bool false) 1 1 := ⟨Tryz.underlying26, by kernel_rfl, rfl, by omega⟩
theorem toBool_step (xs : List Bool) (i : Nat) (x : Bool) (hx : xs[i]? = some x) :
    (((xs.take i ++ List.replicate (xs.length - i) false).flatMap cB).set (i) (.bool x)) = (xs.take (i + 1) ++ List.replicate (xs.length - (i + 1)) false).flatMap cB := by
  have hi := (List.getElem?_eq_some_iff.1 hx).1
  rw [take_snoc hx, show xs.length - i = (xs.length - (i + 1)) + 1 by omega, List.replicate_succ]
  have hl : ((xs.take i).flatMap cB).length = i := by rw [flatBool_len, List.length_take]; omega
  simp only [List.flatMap_append, List.flatMap_cons, List.flatMap_nil, List.append_nil, List.append_assoc]
  rw [List.set_append_right _ _ (by omega), hl]
  simp [cB]
set_option maxHeartbeats 1000000 in
theorem toBoolS_any (v : Value) (xs : List Bool) (w : World) (hv : SlE w cB 1 v xs) (hn : xs.length ≤ 1048576) :
    Calls Tryz.prog 31 #[v] w fun en w' => ∃ v', en = .returned v' ∧ Own w.heap.size w'.heap.size w' 4 cB 1 v' xs ∧ Below w.heap.size w w' := by
  obtain ⟨A, c, rfl, hl, hm, hx⟩ := hv
  go_enter Tryz.func31, Tryz.ntmps31
  go_wp2_with (at_make; refine wpList_makeE (P := Tryz.prog) cB false elBool rfl rfl rfl _ _ rfl w.heap.size xs.length _ (by rfl) (by rfl) rfl (by omega) (by unfold maxLen; omega) (Nat.le_refl _) ?_; intro w1 hrow1 hbel1)
  go_loopw [4] (fun ii wr => ∃ i : Nat, i ≤ xs.length ∧ ii = .int .i64 i ∧ wr.ownsRow w.heap.size 4 1 (.slice (some ⟨w.heap.size, 0, none⟩) xs.length xs.length) xs.length ((xs.take i ++ List.replicate (xs.length - i) false).flatMap cB) ∧ Below w.heap.size w wr) (fun ii _ => xs.length - (intOf ii).toNat)
  case atStart => exact ⟨0, Nat.zero_le _, rfl, by simpa using hrow1, hbel1⟩
  case round =>
    obtain ⟨i, hi', rfl, hrow, hbel⟩ := hrel
    by_cases hlt : i < xs.length
    · have hxi : xs[i]? = some xs[i] := List.getElem?_eq_getElem hlt
      obtain ⟨b, o, rfl, -, hb1, hc⟩ := hx i _ hxi
      have hstep := toBool_step xs i _ hxi
      have hcur : (xs.take i ++ List.replicate (xs.length - i) false)[i]? = some false := by
        rw [List.getElem?_append_right (by rw [List.length_take]; omega), List.getElem?_replicate, if_pos (by rw [List.length_take]; omega)]
      generalize xs[i] = x at hc hstep hxi
      have hs := hbel.size
      have c0 := (hbel.cell (p := ⟨b, o + i * 1 + 0, none⟩) hb1).trans (hc 0 _ rfl)
      simp only [Nat.add_zero, Nat.mul_one] at c0
      clear hc hx hxi hrow1 hbel1
      have hrow2 := hrow
      have d0 := World.ownsRow.cellAt hrow2 (i) (by omega)
      have f0 := World.ownsRow.frozenAt hrow2 (i)
      have e0 := flat_at cB_len hcur 0 _ rfl
      simp only [Nat.mul_one, Nat.add_zero] at e0
      rw [e0] at d0
      clear e0
      have hst := (World.ownsRow.stored hrow2 (i) (.bool x)).1
      rw [hstep] at hst
      have HST := Lib.hid hst
      clear hst hstep hcur hrow hrow2
      go_wp2
      go_roundw
      case rel => exact ⟨i + 1, by omega, by go_num, HST.out, (hbel.setCell (Nat.le_refl _) _)⟩
      case measure => simp [intOf]; omega
    · obtain rfl : i = xs.length := by omega
      go_wp2
      go_ret
      exact ⟨_, rfl, Own.of_row hrow rfl (by simp), hbel⟩
end Go.Proofs.YtpbfdmfkmbdpkaaGreat

/- Slices of slices of numbers and automata in the laws' helpers. -/
namespace Go.Proofs.YtpbfdmfkmbdpkaaGreat
set_option linter.unusedVariables false
set_option linter.unusedSimpArgs false
open Go.ChangeShapes Go.WideShapes Go.ChangeAt Go.RowKit
attribute [local go_sem] ext_cell ext_frozen ext_lt ext_lt1 ext_lt2 ext_lt3 ltn2 ltn3 ltn13 lts1 lts2 lts3

/-- rows of the call's own, one behind the other in memory -/
def RowsO (w : World) : Nat → Nat → List Value → List (List Int) → Prop
  | lo, hi, [], [] => lo ≤ hi
  | lo, hi, u :: us, xs :: xss => ∃ mid, lo ≤ mid ∧ Own lo mid w 3 cI 1 u xs ∧ RowsO w mid hi us xss
  | _, _, _, _ => False
theorem RowsO.le {w : World} : ∀ {us : List Value} {xss : List (List Int)} {lo hi : Nat}, RowsO w lo hi us xss → lo ≤ hi
  | [], [], _, _, h => h
  | _ :: _, _ :: _, _, _, ⟨mid, h1, _, h3⟩ => Nat.le_trans h1 (RowsO.le h3)
  | [], _ :: _, _, _, h => h.elim
  | _ :: _, [], _, _, h => h.elim
theorem RowsO.len {w : World} : ∀ {us : List Value} {xss : List (List Int)} {lo hi : Nat}, RowsO w lo hi us xss → us.length = xss.length
  | [], [], _, _, _ => rfl
  | _ :: _, _ :: _, _, _, ⟨_, _, _, h3⟩ => by simp [RowsO.len h3]
  | [], _ :: _, _, _, h => h.elim
  | _ :: _, [], _, _, h => h.elim
theorem RowsO.below {w w' : World} {B : Nat} (hb : Below B w w') : ∀ {us : List Value} {xss : List (List Int)} {lo hi : Nat}, RowsO w lo hi us xss → hi ≤ B → RowsO w' lo hi us xss
  | [], [], _, _, h, _ => h
  | _ :: _, _ :: _, _, _, ⟨mid, h1, h2, h3⟩, hB => ⟨mid, h1, h2.below hb (Nat.le_trans (RowsO.le h3) hB), RowsO.below hb h3 hB⟩
  | [], _ :: _, _, _, h, _ => h.elim
  | _ :: _, [], _, _, h, _ => h.elim
theorem RowsO.only {w w' : World} {l r : Nat} (hb : Only l r w w') : ∀ {us : List Value} {xss : List (List Int)} {lo hi : Nat}, RowsO w lo hi us xss → (hi ≤ l ∨ r ≤ lo) → RowsO w' lo hi us xss
  | [], [], _, _, h, _ => h
  | _ :: _, _ :: _, lo, hi, ⟨mid, h1, h2, h3⟩, ho => ⟨mid, h1, h2.only hb (by have := RowsO.le h3; omega), RowsO.only hb h3 (by omega)⟩
  | [], _ :: _, _, _, h, _ => h.elim
  | _ :: _, [], _, _, h, _ => h.elim
theorem RowsO.mono {w : World} : ∀ {us : List Value} {xss : List (List Int)} {lo hi lo' hi' : Nat}, RowsO w lo hi us xss → lo' ≤ lo → hi ≤ hi' → RowsO w lo' hi' us xss
  | [], [], _, _, _, _, h, h1, h2 => by simp only [RowsO] at h ⊢; omega
  | _ :: _, _ :: _, _, _, _, _, ⟨mid, h1, h2, h3⟩, g1, g2 => ⟨mid, by omega, h2.mono g1 (Nat.le_refl _), RowsO.mono h3 (Nat.le_refl _) g2⟩
  | [], _ :: _, _, _, _, _, h, _, _ => h.elim
  | _ :: _, [], _, _, _, _, h, _, _ => h.elim
theorem RowsO.snoc {w : World} {u : Value} {xs : List Int} {hi hi' : Nat} (h : Own hi hi' w 3 cI 1 u xs) (hh : hi ≤ hi') : ∀ {us : List Value} {xss : List (List Int)} {lo : Nat}, RowsO w lo hi us xss → RowsO w lo hi' (us ++ [u]) (xss ++ [xs])
  | [], [], _, h0 => ⟨hi', by simp only [RowsO] at h0; omega, h.mono (by simpa [RowsO] using h0) (Nat.le_refl _), Nat.le_refl _⟩
  | _ :: _, _ :: _, _, ⟨mid, h1, h2, h3⟩ => ⟨mid, h1, h2, RowsO.snoc h hh h3⟩
  | [], _ :: _, _, h0 => h0.elim
  | _ :: _, [], _, h0 => h0.elim
theorem RowsO.at_ {w : World} : ∀ {us : List Value} {xss : List (List Int)} {lo hi : Nat}, RowsO w lo hi us xss → ∀ (i : Nat) (u : Value) (xs : List Int), us[i]? = some u → xss[i]? = some xs → SlI lo hi w cI 1 u xs
  | [], [], _, _, _, _, _, _, h, _ => by simp at h
  | _ :: _, _ :: _, _, _, ⟨mid, h1, h2, h3⟩, i, u, xs, hu, hx => by
    cases i with
    | zero =>
      simp only [List.getElem?_cons_zero, Option.some.injEq] at hu hx
      subst hu hx
      exact (h2.sl cI_len).mono (Nat.le_refl _) (RowsO.le h3)
    | succ i => exact (RowsO.at_ h3 i u xs (by simpa using hu) (by simpa using hx)).mono h1 (Nat.le_refl _)
  | [], _ :: _, _, _, h, _, _, _, _, _ => h.elim
  | _ :: _, [], _, _, h, _, _, _, _, _ => h.elim

def SSO (lo hi : Nat) (w : World) (v : Value) (xss : List (List Int)) : Prop :=
  ∃ us mid, Own lo mid w 22 cV 1 v us ∧ RowsO w mid hi us xss ∧ lo ≤ mid
theorem SSO.view {lo hi : Nat} {w : World} {v : Value} {xss : List (List Int)} (h : SSO lo hi w v xss) : SSV lo hi w v xss := by
  obtain ⟨us, mid, h1, h2, h3⟩ := h
  exact ⟨us, (h1.sl cV_len).mono (Nat.le_refl _) h2.le, h2.len, fun i u xs hu hx => (h2.at_ i u xs hu hx).mono h3 (Nat.le_refl _)⟩
theorem SSO.below {lo hi : Nat} {w w' : World} {v : Value} {xss : List (List Int)} (h : SSO lo hi w v xss) {B : Nat} (hb : Below B w w') (hB : hi ≤ B) : SSO lo hi w' v xss := by
  obtain ⟨us, mid, h1, h2, h3⟩ := h
  exact ⟨us, mid, h1.below hb (Nat.le_trans h2.le hB), h2.below hb hB, h3⟩
theorem SSO.only {lo hi : Nat} {w w' : World} {v : Value} {xss : List (List Int)} (h : SSO lo hi w v xss) {l r : Nat} (hb : Only l r w w') (ho : hi ≤ l ∨ r ≤ lo) : SSO lo hi w' v xss := by
  obtain ⟨us, mid, h1, h2, h3⟩ := h
  have := h2.le
  exact ⟨us, mid, h1.only hb (by omega), h2.only hb (by omega), h3⟩
theorem SSO.mono {lo hi : Nat} {w : World} {v : Value} {xss : List (List Int)} (h : SSO lo hi w v xss) {lo' hi' : Nat} (g1 : lo' ≤ lo) (g2 : hi ≤ hi') : SSO lo' hi' w v xss := by
  obtain ⟨us, mid, h1, h2, h3⟩ := h
  exact ⟨us, mid, h1.mono g1 (Nat.le_refl _), h2.mono (Nat.le_refl _) g2, by omega⟩

def AuO (lo hi : Nat) (w : World) (v : Value) (a : Au) : Prop :=
  ∃ ac nx mid, v = .agg #[.int .i64 a.start, ac, nx] ∧ Own lo mid w 4 cB 1 ac a.accept ∧ SSO mid hi w nx a.next ∧ lo ≤ mid ∧ mid ≤ hi
theorem AuO.view {lo hi : Nat} {w : World} {v : Value} {a : Au} (h : AuO lo hi w v a) : AuV lo hi w v a := by
  obtain ⟨ac, nx, mid, rfl, h1, h2, h3, h4⟩ := h
  exact ⟨ac, nx, rfl, (h1.sl cB_len).mono (Nat.le_refl _) h4, h2.view.mono h3 (Nat.le_refl _)⟩
theorem AuO.below {lo hi : Nat} {w w' : World} {v : Value} {a : Au} (h : AuO lo hi w v a) {B : Nat} (hb : Below B w w') (hB : hi ≤ B) : AuO lo hi w' v a := by
  obtain ⟨ac, nx, mid, rfl, h1, h2, h3, h4⟩ := h
  exact ⟨ac, nx, mid, rfl, h1.below hb (by omega), h2.below hb hB, h3, h4⟩

def szRows : Int → List (List Int) → Int
  | left, [] => left
  | left, xs :: r => if left < xs.length then -1 else szRows (left - xs.length) r
def szSS (xss : List (List Int)) (left : Int) : Int := if left < xss.length then -1 else szRows (left - xss.length) xss
def szAu (a : Au) (left : Int) : Int := if left < a.accept.length then -1 else szSS a.next (left - a.accept.length)
theorem szRows_le : ∀ (xss : List (List Int)) (left : Int), 0 ≤ szRows left xss → szRows left xss ≤ left ∧ ∀ xs ∈ xss, (xs.length : Int) ≤ left
  | [], left, h => ⟨Int.le_refl _, by simp⟩
  | xs :: r, left, h => by
    simp only [szRows] at h ⊢
    split at h
    · omega
    · rename_i hlt
      rw [if_neg hlt]
      have := szRows_le r _ h
      refine ⟨by omega, fun ys hy => ?_⟩
      rcases List.mem_cons.1 hy with rfl | hy
      · omega
      · have := this.2 ys hy; omega
theorem szSS_le (xss : List (List Int)) (left : Int) (h : 0 ≤ szSS xss left) : szSS xss left ≤ left ∧ (xss.length : Int) ≤ left ∧ ∀ xs ∈ xss, (xs.length : Int) ≤ left := by
  unfold szSS at h ⊢
  split at h
  · omega
  · rename_i hlt
    rw [if_neg hlt]
    have := szRows_le xss _ h
    exact ⟨by omega, by omega, fun xs hx => by have := this.2 xs hx; omega⟩
theorem szAu_le (a : Au) (left : Int) (h : 0 ≤ szAu a left) : szAu a left ≤ left ∧ (a.accept.length : Int) ≤ left ∧ (a.next.length : Int) ≤ left ∧ ∀ xs ∈ a.next, (xs.length : Int) ≤ left := by
  unfold szAu at h ⊢
  split at h
  · omega
  · rename_i hlt
    rw [if_neg hlt]
    have := szSS_le _ _ h
    exact ⟨by omega, by omega, by omega, fun xs hx => by have := this.2.2 xs hx; omega⟩

set_option maxHeartbeats 1000000 in
theorem szIntSS_any (v : Value) (xss : List (List Int)) (left : Int) (w : World) (hv : SSV 0 w.heap.size w v xss) (h0 : 0 ≤ left) (h1 : left ≤ 1048576) :
    Calls Tryz.prog 26 #[v, .int .i64 left] w fun e w' => e = .returned (.int .i64 (szSS xss left)) ∧ Below w.heap.size w w' := by
  obtain ⟨vs, ⟨A, c, rfl, hl, hm, hx⟩, hlen, hrows⟩ := hv
  rw [hlen] at hl ⊢
  have HL := Lib.hid hlen
  clear hlen
  unfold maxLen at hm
  by_cases hlt : left < xss.length
  · rw [szSS, if_pos hlt]
    go_enter Tryz.func26, Tryz.ntmps26
    go_wp2
    go_ret
    exact ⟨rfl, Below.refl _ _⟩
  · rw [szSS, if_neg hlt]
    go_enter Tryz.func26, Tryz.ntmps26
    go_wp2
    go_loopw [1, 5] (fun ll ii wr => ∃ (i : Nat) (cur : Int), i ≤ xss.length ∧ 0 ≤ cur ∧ cur ≤ 1048576 ∧ ll = .int .i64 cur ∧ ii = .int .i64 i ∧ szRows (left - xss.length) xss = szRows cur (xss.drop i) ∧ wr = w) (fun _ ii _ => xss.length - (intOf ii).toNat)
    case atStart => exact ⟨0, _, Nat.zero_le _, by omega, by omega, rfl, rfl, rfl, rfl⟩
    case round =>
      obtain ⟨i, cur, hi, hc0, hc1, rfl, rfl, hsz, rfl⟩ := hrel
      have HS := Lib.hid hsz
      clear hsz
      by_cases hlt : i < xss.length
      · obtain ⟨u, hu⟩ : ∃ u, vs[i]? = some u := ⟨_, List.getElem?_eq_getElem (by have := HL.out; omega)⟩
        obtain ⟨b, o, rfl, -, hb1, hc⟩ := hx i u hu
        have hrow := hrows i u _ hu (List.getElem?_eq_getElem hlt)
        have hdrop := List.drop_eq_getElem_cons hlt
        generalize xss[i] = xs at hrow hdrop
        obtain ⟨A', c', rfl, hl', hm', -⟩ := hrow
        have c0 := hc 0 _ rfl
        simp only [Nat.mul_one, Nat.add_zero] at c0
        have hn := szIntS_any A' xs.length c' cur
        have HD := Lib.hid hdrop
        have HU := Lib.hid hu
        clear hc hx hrows hdrop hu
        by_cases g1 : cur < xs.length
        · rw [if_pos g1] at hn
          have HN := Lib.hid hn
          clear hn
          go_wp2_with fail
          refine (HN.out _ (by omega) hc0 hc1).mono ?_; rintro e w1 ⟨rfl, rfl⟩
          go_wp2_with fail
          go_ret
          exact ⟨ret_int (by rw [HS.out, HD.out, szRows, if_pos (by omega)]), Below.refl _ _⟩
        · rw [if_neg g1] at hn
          have HN := Lib.hid hn
          clear hn
          go_wp2_with fail
          refine (HN.out _ (by omega) hc0 hc1).mono ?_; rintro e w1 ⟨rfl, rfl⟩
          go_wp2_with fail
          go_roundw
          case rel => exact ⟨i + 1, _, by omega, by omega, by omega, rfl, by go_num, by rw [HS.out, HD.out, szRows, if_neg (by omega)], trivial⟩
          case measure => simp [intOf]; omega
      · obtain rfl : i = xss.length := by omega
        go_wp2
        go_ret
        exact ⟨ret_int (by rw [HS.out]; simp [szRows]), Below.refl _ _⟩

set_option maxHeartbeats 1000000 in
theorem szAutomaton_any (v : Value) (a : Au) (left : Int) (w : World) (hv : AuV 0 w.heap.size w v a) (h0 : 0 ≤ left) (h1 : left ≤ 1048576) :
    Calls Tryz.prog 6 #[v, .int .i64 left] w fun e w' => e = .returned (.int .i64 (if szAu a left < 0 then -1 else szAu a left)) ∧ Below w.heap.size w w' := by
  obtain ⟨ac, nx, rfl, ⟨A1, c1, rfl, hl1, hm1, -⟩, hnx⟩ := hv
  have hc := szBoolS_any A1 a.accept.length c1 left
  by_cases g1 : left < a.accept.length
  · rw [szAu, if_pos g1] at *
    have HC := Lib.hid hc
    clear hc
    go_enter Tryz.func6, Tryz.ntmps6
    go_wp2_with fail
    refine (HC.out _ (by omega) h0 h1).mono ?_; rintro e w1 ⟨rfl, rfl⟩
    go_wp2
    go_ret
    exact ⟨rfl, (Below.refl _ _).alloc (Nat.le_refl _) _⟩
  · rw [szAu, if_neg g1] at *
    have HC := Lib.hid hc
    clear hc
    have hb0 : ∀ o, Below w.heap.size w (w.alloc o) := fun o => (Below.refl _ _).alloc (Nat.le_refl _) o
    have hd := fun W (hW : Below w.heap.size w W) => szIntSS_any nx a.next (left - a.accept.length) W (hnx.keep hW) (by omega) (by omega)
    have HD := Lib.hid hd
    clear hd
    by_cases g2 : szSS a.next (left - a.accept.length) < 0
    · rw [if_pos g2]
      go_enter Tryz.func6, Tryz.ntmps6
      go_wp2_with fail
      refine (HC.out _ (by omega) h0 h1).mono ?_; rintro e w1 ⟨rfl, rfl⟩
      go_wp2_with fail
      refine (HD.out _ (hb0 _)).mono ?_; rintro e w1 ⟨rfl, hb1⟩
      go_wp2_with fail
      go_ret
      exact ⟨rfl, below_trans (hb0 _) hb1⟩
    · rw [if_neg g2]
      go_enter Tryz.func6, Tryz.ntmps6
      go_wp2_with fail
      refine (HC.out _ (by omega) h0 h1).mono ?_; rintro e w1 ⟨rfl, rfl⟩
      go_wp2_with fail
      refine (HD.out _ (hb0 _)).mono ?_; rintro e w1 ⟨rfl, hb1⟩
      go_wp2_with fail
      go_ret
      exact ⟨rfl, below_trans (hb0 _) hb1⟩

theorem elSS : ElemOk Tryz.prog 27 22 (.slice none 0 0) 1 24 := ⟨Tryz.underlying27, by kernel_rfl, rfl, by omega⟩
theorem flatV (l : List Value) : l.flatMap cV = l := by
  induction l with
  | nil => rfl
  | cons x l ih => rw [List.flatMap_cons, ih]; rfl

set_option maxHeartbeats 1000000 in
theorem toIntSS_any (v : Value) (xss : List (List Int)) (w : World) (hv : SSV 0 w.heap.size w v xss) (hn : xss.length ≤ 1048576) (hm : ∀ xs ∈ xss, xs.length ≤ 1048576) :
    Calls Tryz.prog 32 #[v] w fun en w' => ∃ v', en = .returned v' ∧ SSO w.heap.size w'.heap.size w' v' xss ∧ Below w.heap.size w w' := by
  obtain ⟨vs, ⟨A, c, rfl, hl, hmx, hx⟩, hlen, hrows⟩ := hv
  rw [hlen] at hl ⊢
  have HL := Lib.hid hlen
  clear hlen
  go_enter Tryz.func32, Tryz.ntmps32
  go_wp2_with (at_make; refine wpList_makeE (P := Tryz.prog) cV (.slice none 0 0) elSS rfl rfl rfl _ _ rfl w.heap.size xss.length _ (by rfl) (by rfl) rfl (by omega) (by unfold maxLen; omega) (Nat.le_refl _) ?_; intro w1 hrow1 hbel1)
  have hs1 : w.heap.size + 1 ≤ w1.heap.size := (hrow1.lt w.heap.size rfl).2
  go_loopw [4] (fun ii wr => ∃ (i : Nat) (us : List Value), i ≤ xss.length ∧ us.length = i ∧ ii = .int .i64 i ∧ wr.ownsRow w.heap.size 22 1 (.slice (some ⟨w.heap.size, 0, none⟩) xss.length xss.length) xss.length (us ++ List.replicate (xss.length - i) (.slice none 0 0)) ∧ RowsO wr (w.heap.size + 1) wr.heap.size us (xss.take i) ∧ Below w.heap.size w wr) (fun ii _ => xss.length - (intOf ii).toNat)
  case atStart => exact ⟨0, [], Nat.zero_le _, rfl, rfl, by simpa [flatV] using hrow1, hs1, hbel1⟩
  case round =>
    obtain ⟨i, us, hi', hus, rfl, hrow, hro, hbel⟩ := hrel
    by_cases hlt : i < xss.length
    · obtain ⟨u, hu⟩ : ∃ u, vs[i]? = some u := ⟨_, List.getElem?_eq_getElem (by have := HL.out; omega)⟩
      obtain ⟨b, o, rfl, -, hb1, hc⟩ := hx i u hu
      have hxi : xss[i]? = some xss[i] := List.getElem?_eq_getElem hlt
      have hvi := hrows i u _ hu hxi
      have hlx := hm _ (List.getElem_mem hlt)
      generalize xss[i] = xs at hvi hxi hlx
      have c0 := (hbel.cell (p := ⟨b, o + i * 1 + 0, none⟩) hb1).trans (hc 0 _ rfl)
      simp only [Nat.mul_one, Nat.add_zero] at c0
      have hs := hbel.size
      have hvi := SlE.keep hvi hbel
      have HX := Lib.hid hxi
      have HU := Lib.hid hu
      have HS := Lib.hid hus
      clear hc hx hxi hu hus hrow1 hbel1 hs1 hrows
      go_wp2_with fail
      refine (toIntS_any u xs _ hvi hlx).mono ?_
      rintro e w2 ⟨v2, rfl, ho2, hb2⟩
      obtain ⟨A2, n2, c2, rfl⟩ := ho2.shape
      have hs2 := hb2.size
      have hrow2 := ownsRow_below hrow hb2 (Nat.le_refl _)
      have d0 := World.ownsRow.cellAt hrow2 i (by omega)
      have f0 := World.ownsRow.frozenAt hrow2 i
      have e0 : (us ++ List.replicate (xss.length - i) (Value.slice none 0 0))[i]? = some (.slice none 0 0) := by
        rw [List.getElem?_append_right (by rw [HS.out]; exact Nat.le_refl _), List.getElem?_replicate, if_pos (by have := HS.out; omega)]
      rw [e0] at d0
      have hst := (World.ownsRow.stored hrow2 i (.slice A2 n2 c2)).1
      have hset : (us ++ List.replicate (xss.length - i) (Value.slice none 0 0)).set i (.slice A2 n2 c2) = (us ++ [.slice A2 n2 c2]) ++ List.replicate (xss.length - (i + 1)) (.slice none 0 0) := by
        rw [List.set_append_right _ _ (by rw [HS.out]; exact Nat.le_refl _), HS.out, Nat.sub_self, show xss.length - i = (xss.length - (i + 1)) + 1 by omega, List.replicate_succ]
        simp
      rw [hset] at hst
      have hpos := (hrow.lt w.heap.size rfl).2
      have hro2 : RowsO (w2.setCell ⟨w.heap.size, i, none⟩ (.slice A2 n2 c2)) (w.heap.size + 1) (w2.setCell ⟨w.heap.size, i, none⟩ (.slice A2 n2 c2)).heap.size (us ++ [.slice A2 n2 c2]) (xss.take (i + 1)) := by
        rw [take_snoc HX.out]
        have h1 := (hro.below hb2 (Nat.le_refl _)).snoc ho2 hs2
        have h2 := h1.only ((Only.refl w.heap.size (w.heap.size + 1) w2).setCell (p := ⟨w.heap.size, i, none⟩) (.inl (by simp <;> omega)) (.slice A2 n2 c2)) (.inr (Nat.le_refl _))
        simpa using h2
      have HST := Lib.hid hst
      have HR := Lib.hid hro2
      have hu2 : (us ++ [Value.slice A2 n2 c2]).length = i + 1 := by simp [HS.out]
      have HU2 := Lib.hid hu2
      clear hst hset e0 hrow hrow2 hro hro2 hu2
      go_wp2
      go_roundw
      case rel => exact ⟨i + 1, _, by omega, HU2.out, by go_num, HST.out, HR.out, (hbel.trans (hb2.mono hs)).setCell (Nat.le_refl _) _⟩
      case measure => simp [intOf]; omega
    · obtain rfl : i = xss.length := by omega
      have hres : SSO w.heap.size wr.heap.size wr (.slice (some ⟨w.heap.size, 0, none⟩) xss.length xss.length) xss := by
        refine ⟨us, w.heap.size + 1, ⟨?_, fun g hg => by cases hg; exact Nat.lt_succ_self _⟩, by simpa using hro, by omega⟩
        rw [flatV, hus]
        simpa using hrow
      clear hrow hus
      go_wp2
      go_ret
      exact ⟨_, rfl, hres, hbel⟩

def szAuD (a : Au) (left : Int) : Int := if szAu a left < 0 then -1 else szAu a left
theorem szAuD_le (a : Au) (left : Int) (hl : left ≤ 1048576) (h : ¬ szAuD a left < 0) : a.accept.length ≤ 1048576 ∧ a.next.length ≤ 1048576 ∧ (∀ xs ∈ a.next, xs.length ≤ 1048576) ∧ 0 ≤ szAuD a left ∧ szAuD a left ≤ left := by
  unfold szAuD at h ⊢
  split at h
  · omega
  · rename_i hx
    obtain ⟨h0, h1, h2, h3⟩ := szAu_le a left (by omega)
    rw [if_neg hx]
    exact ⟨by omega, by omega, fun xs hxs => by have := h3 xs hxs; omega, by omega, h0⟩
theorem szAutomatonD_any (v : Value) (a : Au) (left : Int) (w : World) (hv : AuV 0 w.heap.size w v a) (h0 : 0 ≤ left) (h1 : left ≤ 1048576) :
    Calls Tryz.prog 6 #[v, .int .i64 left] w fun e w' => e = .returned (.int .i64 (szAuD a left)) ∧ Below w.heap.size w w' := szAutomaton_any v a left w hv h0 h1

set_option maxHeartbeats 1000000 in
theorem toAutomaton_any (v : Value) (a : Au) (w : World) (hv : AuV 0 w.heap.size w v a) (h1 : a.accept.length ≤ 1048576) (h2 : a.next.length ≤ 1048576) (h3 : ∀ xs ∈ a.next, xs.length ≤ 1048576) :
    Calls Tryz.prog 9 #[v] w fun e w' => ∃ v', e = .returned v' ∧ AuO w.heap.size w'.heap.size w' v' a ∧ Below w.heap.size w w' := by
  obtain ⟨ac, nx, rfl, hac, hnx⟩ := hv
  obtain ⟨st, accept, next⟩ := a
  go_enter Tryz.func9, Tryz.ntmps9
  go_wp2_with fail
  refine (toBoolS_any ac accept _ ?_ h1).mono ?_
  · exact SlE.keep hac (by repeat (first | exact Below.refl _ _ | refine Below.setCell ?_ (by simp <;> omega) _ | refine Below.alloc ?_ (by simp <;> omega) _))
  rintro e w1 ⟨v1, rfl, ho1', hb1⟩
  have b0 := (((Blk.new w _ _ w.heap.size rfl).alloc _).alloc _).keep hb1
  have b1 := ((Blk.new (w.alloc _) _ _ (w.heap.size + 1) (by simp)).alloc _).keep hb1
  have b2 := (Blk.new ((w.alloc _).alloc _) _ _ (w.heap.size + 1 + 1) (by simp)).keep hb1
  have o1 : Only w.heap.size (w.heap.size + 3) w w1 := (((Only.refl _ _ _).alloc _).alloc _ |>.alloc _).trans (Only.of_below hb1 _ _)
  have ho1 : Own (w.heap.size + 3) w1.heap.size w1 _ cB 1 v1 accept := ho1'.mono (by simp) (Nat.le_refl _)
  clear ho1'
  obtain ⟨A1, n1, c1, rfl⟩ := ho1.shape
  have s1 : w.heap.size + 3 ≤ w1.heap.size := by have := hb1.size; simpa using this
  clear hb1
  have x0 : w1.cell? ⟨w.heap.size, 2, none⟩ = some nx := b0.cell 2
  have x2 : w1.cell? ⟨w.heap.size + 1 + 1, 1, none⟩ = some (.slice none 0 0) := b2.cell 1
  have y2 := b2.frozen 1
  go_wp2_with fail
  refine (toIntSS_any nx next _ ?_ h2 h3).mono ?_
  · exact hnx.keep ((o1.setCell (.inl (by simp <;> omega)) _).below (Nat.le_refl _) (Nat.le_refl _))
  rintro e w2 ⟨v2, rfl, ho2', hb2⟩
  clear x0 x2 y2
  have o2 := (o1.setCell (p := ⟨w.heap.size + 1 + 1, 1, none⟩) (.inl (by simp <;> omega)) (.slice A1 n1 c1)).trans (Only.of_below hb2 _ _)
  have b1 := (b1.far (p := ⟨w.heap.size + 1 + 1, 1, none⟩) (by simp) (.slice A1 n1 c1)).keep hb2
  have b2 := (b2.set_ 1 (.slice A1 n1 c1)).keep hb2
  have s2 : w1.heap.size ≤ w2.heap.size := by have := hb2.size; simpa using this
  have ho2 : SSO w1.heap.size w2.heap.size w2 v2 next := ho2'.mono (by simp) (Nat.le_refl _)
  have ho1 := (ho1.only ((Only.refl w.heap.size (w.heap.size + 3) _).setCell (p := ⟨w.heap.size + 1 + 1, 1, none⟩) (.inl (by simp <;> omega)) (.slice A1 n1 c1)) (.inr (Nat.le_refl _))).below hb2 (by simp)
  obtain ⟨A2, n2, c2, rfl⟩ : ∃ A n c, v2 = .slice A n c := by
    obtain ⟨us, mid, h1, _⟩ := ho2
    exact h1.shape
  have x5 : w2.cell? ⟨w.heap.size + 1, 0, none⟩ = some (.int .i64 0) := b1.cell 0
  have x1 : w2.cell? ⟨w.heap.size + 1, 1, none⟩ = some (.slice none 0 0) := b1.cell 1
  have x2 : w2.cell? ⟨w.heap.size + 1, 2, none⟩ = some (.slice none 0 0) := b1.cell 2
  have x3 : w2.cell? ⟨w.heap.size + 1 + 1, 0, none⟩ = some (.int .i64 st) := b2.cell 0
  have x4 : w2.cell? ⟨w.heap.size + 1 + 1, 1, none⟩ = some (.slice A1 n1 c1) := b2.cell 1
  have x6 : w2.cell? ⟨w.heap.size + 1 + 1, 2, none⟩ = some (.slice none 0 0) := b2.cell 2
  have y1 := b1.frozen 0
  have y2 := b1.frozen 1
  have y3 := b1.frozen 2
  have y4 := b2.frozen 2
  clear ho2' hb2 hac hnx b0 b1 b2
  go_wp2_with fail
  have oz : Only w.heap.size (w.heap.size + 3) w2 _ := ((((Only.refl _ _ w2).setCell (p := ⟨w.heap.size + 1 + 1, 2, none⟩) (.inl (by simp <;> omega)) (.slice A2 n2 c2)).setCell (p := ⟨w.heap.size + 1, 0, none⟩) (.inl (by simp <;> omega)) (.int .i64 st)).setCell (p := ⟨w.heap.size + 1, 1, none⟩) (.inl (by simp <;> omega)) (.slice A1 n1 c1)).setCell (p := ⟨w.heap.size + 1, 2, none⟩) (.inl (by simp <;> omega)) (.slice A2 n2 c2)
  refine bodyPost_ret (v := .agg #[.int .i64 st, .slice A1 n1 c1, .slice A2 n2 c2]) (by simp [results, Tryz.results9, go_sem, x1, x2, x5]) rfl ⟨_, rfl, ⟨_, _, w1.heap.size, rfl, (ho1.only oz (.inr (Nat.le_refl _))).mono (by omega) (Nat.le_refl _), (ho2.only oz (.inr s1)).mono (Nat.le_refl _) (by simp), by omega, by simp <;> omega⟩, (o2.trans oz).below (Nat.le_refl _) (Nat.le_refl _)⟩

set_option maxHeartbeats 1000000 in
theorem eqIntSS_same (v1 v2 : Value) (xss : List (List Int)) (w : World) (hv1 : SSV 0 w.heap.size w v1 xss) (hv2 : SSV 0 w.heap.size w v2 xss) :
    Calls Tryz.prog 39 #[v1, v2] w fun e w' => e = .returned (.bool true) ∧ Below w.heap.size w w' := by
  obtain ⟨us1, ⟨A1, c1, rfl, hl1, hm1, hx1⟩, hlen1, hr1⟩ := hv1
  obtain ⟨us2, ⟨A2, c2, rfl, hl2, hm2, hx2⟩, hlen2, hr2⟩ := hv2
  rw [hlen1] at hl1 ⊢
  rw [hlen2] at hl2 ⊢
  unfold maxLen at hm1 hm2
  have HL1 := Lib.hid hlen1
  have HL2 := Lib.hid hlen2
  clear hlen1 hlen2
  go_enter Tryz.func39, Tryz.ntmps39
  go_wp2
  go_loopw [5] (fun i wr => ∃ (k : Nat) (u : World), k ≤ xss.length ∧ i = .int .i64 k ∧ wr = ext w u) (fun i _ => xss.length - (intOf i).toNat)
  case atStart => exact ⟨0, w, Nat.zero_le _, rfl, ext_self w⟩
  case round =>
    obtain ⟨k, u, hk, rfl, rfl⟩ := hrel
    by_cases hlt : k < xss.length
    · have hxk := List.getElem?_eq_getElem hlt
      obtain ⟨a1, ha1⟩ : ∃ a, us1[k]? = some a := ⟨_, List.getElem?_eq_getElem (by have := HL1.out; omega)⟩
      obtain ⟨a2, ha2⟩ : ∃ a, us2[k]? = some a := ⟨_, List.getElem?_eq_getElem (by have := HL2.out; omega)⟩
      obtain ⟨b1, o1, rfl, -, hb1, hc1⟩ := hx1 k _ ha1
      obtain ⟨b2, o2, rfl, -, hb2, hc2⟩ := hx2 k _ ha2
      have g1 := hr1 k _ _ ha1 hxk
      have g2 := hr2 k _ _ ha2 hxk
      generalize xss[k] = x at g1 g2
      have c10 := hc1 0 _ rfl
      have c20 := hc2 0 _ rfl
      simp only [Nat.add_zero, Nat.mul_one] at c10 c20
      clear hc1 hc2 hx1 hx2 hr1 hr2 hxk ha1 ha2
      have g1 := SlE.keep g1 (ext_below w u)
      have g2 := SlE.keep g2 (ext_below w u)
      go_wp2
      refine wp_region_ext_lit (by kernel_rfl) (by kernel_rfl) ?_
      repeat (go_big_quiet_step ((go_at_call 36; exact Calls.ext_of (eqIntS_same a1 a2 x _ (SlE.ext g1 _) (SlE.ext g2 _)))))
      refine wpQuiet_nil ?_
      intro _ hw'
      obtain ⟨u2, hw''⟩ := hw'
      subst hw''
      go_wp2
      go_roundw
      case rel =>
        obtain ⟨y, hy⟩ := ext_ext w u u2
        exact ⟨k + 1, y, by omega, by go_num, hy⟩
      case measure => simp [intOf]; omega
    · go_wp2
      go_ret
      exact ⟨rfl, ext_below _ _⟩

set_option maxHeartbeats 1000000 in
theorem eqAutomaton_same (v1 v2 : Value) (a : Au) (w : World) (hv1 : AuV 0 w.heap.size w v1 a) (hv2 : AuV 0 w.heap.size w v2 a) :
    Calls Tryz.prog 13 #[v1, v2] w fun e w' => e = .returned (.bool true) ∧ Below w.heap.size w w' := by
  obtain ⟨vs1, es1, rfl, hvs1, hes1⟩ := hv1
  obtain ⟨vs2, es2, rfl, hvs2, hes2⟩ := hv2
  obtain ⟨st, accept, next⟩ := a
  have hb0 : Below w.heap.size w ((w.alloc (.cells #[.int .i64 st, vs1, es1] 38)).alloc (.cells #[.int .i64 st, vs2, es2] 38)) := ((Below.refl _ _).alloc (Nat.le_refl _) _).alloc (by simp) _
  go_enter Tryz.func13, Tryz.ntmps13
  go_wp2_with fail
  refine (eqBoolS_same vs1 vs2 accept _ (SlE.keep hvs1 hb0) (SlE.keep hvs2 hb0)).mono ?_
  rintro e w1 ⟨rfl, hb1⟩
  have b0 := ((Blk.new w _ _ w.heap.size rfl).alloc _).keep hb1
  have b1 := (Blk.new (w.alloc _) _ _ (w.heap.size + 1) (by simp)).keep hb1
  have hb2 := below_trans hb0 hb1
  have x0 : w1.cell? ⟨w.heap.size, 2, none⟩ = some es1 := b0.cell 2
  have x1 : w1.cell? ⟨w.heap.size + 1, 2, none⟩ = some es2 := b1.cell 2
  clear hb0 hb1 b0 b1
  go_wp2_with fail
  refine (eqIntSS_same es1 es2 next _ (hes1.keep hb2) (hes2.keep hb2)).mono ?_
  rintro e w2 ⟨rfl, hb3⟩
  go_wp2_with fail
  go_ret
  exact ⟨rfl, below_trans hb2 hb3⟩

/-- what 'markIntSS' writes -/
def mkSS : Int → List (List Int) → List (List Int)
  | _, [] => []
  | k, xs :: r => mkInt k xs.length :: mkSS (k + xs.length) r
def sumLen : List (List Int) → Nat
  | [] => 0
  | xs :: r => xs.length + sumLen r
theorem sumLen_app : ∀ (l r : List (List Int)), sumLen (l ++ r) = sumLen l + sumLen r
  | [], r => by simp [sumLen]
  | x :: l, r => by simp only [List.cons_append, sumLen, sumLen_app l r]; omega
theorem mkSS_app : ∀ (l r : List (List Int)) (k : Int), mkSS k (l ++ r) = mkSS k l ++ mkSS (k + sumLen l) r
  | [], r, k => by simp [mkSS, sumLen]
  | x :: l, r, k => by
    simp only [List.cons_append, mkSS, mkSS_app l r, sumLen]
    congr 3
    omega
theorem mkSS_len : ∀ (l : List (List Int)) (k : Int), (mkSS k l).length = l.length
  | [], _ => rfl
  | x :: l, k => by simp [mkSS, mkSS_len l]
theorem sumLen_take_le : ∀ (l : List (List Int)) (i : Nat), sumLen (l.take i) ≤ sumLen l
  | [], i => by simp [sumLen]
  | x :: l, 0 => by simp [sumLen]
  | x :: l, i + 1 => by simp only [List.take_succ_cons, sumLen]; have := sumLen_take_le l i; omega
theorem mkSS_at (l : List (List Int)) (k : Int) (i : Nat) (xs : List Int) (h : l[i]? = some xs) : (mkSS k l)[i]? = some (mkInt (k + sumLen (l.take i)) xs.length) := by
  have hi := (List.getElem?_eq_some_iff.1 h).1
  have hx := (List.getElem?_eq_some_iff.1 h).2
  have : l = l.take i ++ xs :: l.drop (i + 1) := by
    rw [← hx, ← List.drop_eq_getElem_cons hi, List.take_append_drop]
  rw [this, mkSS_app, mkSS]
  have hlt : (mkSS k (l.take i)).length = i := by rw [mkSS_len, List.length_take]; omega
  have htk : (l.take i ++ xs :: l.drop (i + 1)).take i = l.take i := by
    rw [← this]
  rw [List.getElem?_append_right (by omega), hlt, Nat.sub_self, htk]
  rfl

set_option maxHeartbeats 1000000 in
theorem markIntSS_any (lo hi : Nat) (v : Value) (xss : List (List Int)) (k : Int) (w : World) (hv : SSO lo hi w v xss) (hk : 0 ≤ k) (hb : k + sumLen xss ≤ 4611686018427387904) (hn : xss.length ≤ 1048576) (hhi : hi ≤ w.heap.size) :
    Calls Tryz.prog 43 #[v, .int .i64 k] w fun en w' => en = .returned (.int .i64 (k + sumLen xss)) ∧ SSO lo hi w' v (mkSS k xss) ∧ Only lo hi w w' := by
  obtain ⟨us, mid, hown, hro, hmid⟩ := hv
  have hul := hro.len
  have hle := hro.le
  obtain ⟨A, c, rfl, hl, hm, hx⟩ := hown.sl cV_len
  rw [hul] at hown hl ⊢
  have HU := Lib.hid hul
  clear hul
  unfold maxLen at hm
  have hz := fun i => sumLen_take_le xss i
  go_enter Tryz.func43, Tryz.ntmps43
  go_wp2
  go_loopw [1, 5] (fun kk ii wr => ∃ i m : Nat, i ≤ xss.length ∧ kk = .int .i64 (k + sumLen (xss.take i)) ∧ ii = .int .i64 i ∧ RowsO wr mid m (us.take i) (mkSS k (xss.take i)) ∧ RowsO wr m hi (us.drop i) (xss.drop i) ∧ Only mid hi w wr) (fun _ ii _ => xss.length - (intOf ii).toNat)
  case atStart => exact ⟨0, mid, Nat.zero_le _, by simp [sumLen], rfl, by simp [RowsO, mkSS], by simpa using hro, Only.refl _ _ _⟩
  case round =>
    obtain ⟨i, m, hi', rfl, rfl, hr1, hr2, honly⟩ := hrel
    by_cases hlt : i < xss.length
    · obtain ⟨u, hu⟩ : ∃ u, us[i]? = some u := ⟨_, List.getElem?_eq_getElem (by have := HU.out; omega)⟩
      have hud := (List.getElem?_eq_some_iff.1 hu)
      obtain ⟨hul, hue⟩ := hud
      have hd1 := List.drop_eq_getElem_cons hul
      have hd2 := List.drop_eq_getElem_cons hlt
      have hxi : xss[i]? = some xss[i] := List.getElem?_eq_getElem hlt
      rw [hue] at hd1
      have hz1 := hz i
      have hz2 := hz (i + 1)
      have ht1 : us.take (i + 1) = us.take i ++ [u] := take_snoc hu
      have ht2 : xss.take (i + 1) = xss.take i ++ [xss[i]] := take_snoc hxi
      generalize xss[i] = xs at hd2 ht2 hxi
      rw [hd1, hd2] at hr2
      obtain ⟨m2, hm12, ho, hr3⟩ := hr2
      obtain ⟨b, o, rfl, hb1, hb2, hc⟩ := hx i u hu
      have c0 := (honly.cell (p := ⟨b, o + i * 1 + 0, none⟩) (show b < _ by omega) (.inl hb2)).trans (hc 0 _ rfl)
      simp only [Nat.add_zero, Nat.mul_one] at c0
      have hsum : sumLen (xss.take (i + 1)) = sumLen (xss.take i) + xs.length := by rw [ht2, sumLen_app]; simp [sumLen]
      have hmk : mkSS k (xss.take (i + 1)) = mkSS k (xss.take i) ++ [mkInt (k + sumLen (xss.take i)) xs.length] := by rw [ht2, mkSS_app]; rfl
      rw [hsum] at hz2
      have HS := Lib.hid hsum
      have HM := Lib.hid hmk
      have HT := Lib.hid ht1
      have hle3 := hr3.le
      have hle1 := hr1.le
      clear hc hx hu hue hul hd1 hd2 hxi ht1 ht2 hsum hmk hz
      go_wp2_with fail
      refine (markIntS_any m m2 _ u xs (k + sumLen (xss.take i)) _ ho (by omega) (by omega)).mono ?_
      rintro e w2 ⟨rfl, ho2, hon2⟩
      have hr1' := hr1.only hon2 (.inl (Nat.le_refl _))
      have hr3' := hr3.only hon2 (.inr (Nat.le_refl _))
      go_wp2_with fail
      go_roundw
      case rel =>
        refine ⟨i + 1, m2, by omega, ?_, by go_num, ?_, hr3', honly.trans (hon2.mono (by omega) (by omega))⟩
        · rw [HS.out]; go_num
        · rw [HM.out, HT.out]
          exact hr1'.snoc ho2 hm12
      case measure => simp [intOf]; omega
    · obtain rfl : i = xss.length := by omega
      have hdu : us.drop xss.length = [] := by rw [← HU.out]; simp
      rw [hdu] at hr2
      have hfin : SSO lo hi wr (.slice A xss.length c) (mkSS k xss) := by
        refine ⟨us, mid, ?_, ?_, hmid⟩
        · rw [← HU.out] at hown ⊢
          exact hown.only honly (.inl (Nat.le_refl _))
        · have h1 : us.take xss.length = us := by rw [← HU.out]; simp
          rw [h1] at hr1
          simp only [List.take_length, List.drop_length, RowsO] at hr1 hr2
          exact hr1.mono (Nat.le_refl _) hr2
      have ho := honly.mono hmid (Nat.le_refl hi)
      clear hr1 hr2 hdu hx hown hro hz
      go_wp2_with fail
      go_ret
      exact ⟨ret_int (by simp), hfin, ho⟩


set_option maxHeartbeats 1000000 in
theorem markAutomaton_any (lo hi : Nat) (v : Value) (a : Au) (k : Int) (w : World) (hv : AuO lo hi w v a) (hw : hi ≤ w.heap.size) (hk : 0 ≤ k) (h1 : a.accept.length ≤ 1048576) (h2 : a.next.length ≤ 1048576) (h3 : sumLen a.next ≤ 1099511627776) (hk2 : k ≤ 1099511627776) :
    Calls Tryz.prog 15 #[v, .int .i64 k] w fun e w' => ∃ k', e = .returned (.int .i64 k') ∧ k ≤ k' ∧ k' ≤ k + 1099512676352 ∧ Only lo hi w w' := by
  obtain ⟨ac, nx, mid, rfl, hvs, hes, hm1, hm2⟩ := hv
  obtain ⟨st, accept, next⟩ := a
  have hb0 : Below w.heap.size w (w.alloc (.cells #[.int .i64 st, ac, nx] 38)) := (Below.refl _ _).alloc (Nat.le_refl _) _
  go_enter Tryz.func15, Tryz.ntmps15
  go_wp2_with fail
  refine (markBoolS_any lo mid _ ac accept k _ (hvs.below hb0 (by omega)) hk (by omega)).mono ?_
  rintro e w1 ⟨rfl, -, ho1⟩
  have b0 := (Blk.new w _ _ w.heap.size rfl).only ho1 (.inr (by omega))
  have x0 : w1.cell? ⟨w.heap.size, 2, none⟩ = some nx := b0.cell 2
  have ho2 := (Only.of_below hb0 lo mid).trans ho1
  have hs := ho2.size
  clear hb0 b0
  go_wp2_with fail
  refine (markIntSS_any mid hi nx next (k + accept.length) _ (hes.only ho2 (.inr (Nat.le_refl _))) (by omega) (by omega) h2 (by omega)).mono ?_
  rintro e w2 ⟨rfl, -, ho3⟩
  go_wp2_with fail
  go_ret
  exact ⟨_, rfl, by omega, by omega, (ho2.mono (Nat.le_refl _) hm2).trans (ho3.mono hm1 (Nat.le_refl _))⟩
theorem sumLen_le : ∀ (l : List (List Int)) (m : Nat), (∀ xs ∈ l, xs.length ≤ m) → sumLen l ≤ l.length * m
  | [], _, _ => by simp [sumLen]
  | x :: l, m, h => by
    have h1 := h x (List.mem_cons_self ..)
    have h2 := sumLen_le l m (fun y hy => h y (List.mem_cons_of_mem _ hy))
    simp only [sumLen, List.length_cons, Nat.succ_mul]
    omega
end Go.Proofs.YtpbfdmfkmbdpkaaGreat

