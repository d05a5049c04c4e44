/- Parts of the proof, joined into one text: HelpStep, HelpWalk, MarkW, StepsM, WalkM, MatchM, StepS, NodesS, WalkS, SetS, FromS. -/
import Derived.Test.YtbkaoghlkdbofaaPartOLGJHFGJ
import Derived.Test.YtbkaoghlkdbofaaPartNFGBNNPI
import Derived.Test.YtbkaoghlkdbofaaPartFAAFNEKK
import Derived.Test.YtbkaoghlkdbofaaPartEDIBNICH
import Derived.Test.YtbkaoghlkdbofaaPartEFEALPJP
/- Step in the laws' helpers: equal lists are told equal; marking, looking, copying, measuring. -/
namespace Go.Proofs.Ytbkaoghlkdbofaa
set_option linter.unusedVariables false
set_option linter.unusedSimpArgs false
open Go.ChangeShapes Go.WideShapes Go.ChangeAt Go.RowKit
attribute [local go_sem] ext_cell ext_frozen ext_lt ext_lt1 ext_lt2 ext_lt3 ltn2 ltn3 ltn13 lts1 lts2 lts3

theorem eqStep_same (p : St) (w : World) :
    Calls Try.prog 138 #[.agg #[.int .i64 p.1, .bool p.2], .agg #[.int .i64 p.1, .bool p.2]] w fun e w' => e = .returned (.bool true) ∧ Below w.heap.size w w' := by
  obtain ⟨a0, a1⟩ := p
  go_enter Try.func138, Try.ntmps138
  go_wp2
  go_ret
  refine ⟨rfl, ?_⟩
  repeat (first | exact Below.refl _ _ | refine Below.alloc ?_ (by simp) _)
set_option maxHeartbeats 400000 in
theorem eqStepS_same (v1 v2 : Value) (xs : List St) (w : World) (hv1 : SlE w cSt 2 v1 xs) (hv2 : SlE w cSt 2 v2 xs) :
    Calls Try.prog 83 #[v1, v2] w fun e w' => e = .returned (.bool true) ∧ Below w.heap.size w w' := by
  obtain ⟨A1, c1, rfl, hl1, hm1, hx1⟩ := hv1
  obtain ⟨A2, c2, rfl, hl2, hm2, hx2⟩ := hv2
  unfold maxLen at hm1 hm2
  go_enter Try.func83, Try.ntmps83
  go_wp2
  go_loopw [5] (fun i wr => ∃ (k : Nat) (u : World), k ≤ xs.length ∧ i = .int .i64 k ∧ wr = ext w u) (fun i _ => xs.length - (intOf i).toNat)
  case atStart => exact ⟨0, w, Nat.zero_le _, rfl, ext_self w⟩
  case round =>
    obtain ⟨k, u, hk, rfl, rfl⟩ := hrel
    by_cases hlt : k < xs.length
    · obtain ⟨b1, o1, rfl, -, hb1, hc1⟩ := hx1 k xs[k] (List.getElem?_eq_getElem hlt)
      obtain ⟨b2, o2, rfl, -, hb2, hc2⟩ := hx2 k xs[k] (List.getElem?_eq_getElem hlt)
      generalize xs[k] = x at hc1 hc2
      have c10 := hc1 0 _ rfl
      have c11 := hc1 1 _ rfl
      have c20 := hc2 0 _ rfl
      have c21 := hc2 1 _ rfl
      simp only [Nat.add_zero] at c10 c20
      clear hc1 hc2 hx1 hx2
      go_wp2
      refine wp_region_ext_lit (by kernel_rfl) (by kernel_rfl) ?_
      repeat (go_big_quiet_step ((go_at_call 138; exact Calls.ext_of (eqStep_same x _))))
      refine wpQuiet_nil ?_
      intro _ hw'
      obtain ⟨u2, hw''⟩ := hw'
      subst hw''
      go_wp2
      go_roundw
      case rel =>
        obtain ⟨y, hy⟩ := ext_ext w u u2
        exact ⟨k + 1, y, by omega, by go_num, hy⟩
      case measure => simp [intOf]; omega
    · go_wp2
      go_ret
      exact ⟨rfl, ext_below _ _⟩
def mkStep (k : Int) (n : Nat) : List St := (List.range n).map fun (i : Nat) => (k + 2 * (i : Int), ((k + 2 * (i : Int) + 1) % 3 == 0))
theorem mkStep_len (k : Int) (n : Nat) : (mkStep k n).length = n := by simp [mkStep]
theorem mkStep_succ (k : Int) (i : Nat) : mkStep k (i + 1) = mkStep k i ++ [(k + 2 * (i : Int), ((k + 2 * (i : Int) + 1) % 3 == 0))] := by simp [mkStep, List.range_succ]
theorem mkStep_at (k : Int) {n i : Nat} (h : i < n) : (mkStep k n)[i]? = some (k + 2 * (i : Int), ((k + 2 * (i : Int) + 1) % 3 == 0)) := by simp [mkStep, h]
theorem flatStep_len (l : List St) : (l.flatMap cSt).length = l.length * 2 := by
  induction l with
  | nil => rfl
  | cons x l ih => simp only [List.flatMap_cons, List.length_append, cSt_len, ih, List.length_cons]; omega
theorem markStep_step (k : Int) (xs : List St) (i : Nat) (hi : i < xs.length) :
    ((((mkStep k i ++ xs.drop i).flatMap cSt).set (i * 2) (.int .i64 (k + 2 * (i : Int)))).set (i * 2 + 1) (.bool (((k + 2 * (i : Int) + 1) % 3 == 0)))) = (mkStep k (i + 1) ++ xs.drop (i + 1)).flatMap cSt := by
  rw [List.drop_eq_getElem_cons hi, mkStep_succ]
  have hl : ((mkStep k i).flatMap cSt).length = i * 2 := by rw [flatStep_len, mkStep_len]
  simp only [List.flatMap_append, List.flatMap_cons, List.flatMap_nil, List.append_nil, List.append_assoc]
  rw [List.set_append_right _ _ (by omega), List.set_append_right _ _ (by omega), hl]
  simp [cSt]
set_option maxHeartbeats 4000000 in
theorem markStepS_any (lo hi : Nat) (e : TypeId) (v : Value) (xs : List St) (k : Int) (w : World) (hv : Own lo hi w e cSt 2 v xs) (hk : 0 ≤ k) (hb : k + 2 * xs.length ≤ 4611686018427387904) :
    Calls Try.prog 84 #[v, .int .i64 k] w fun en w' => en = .returned (.int .i64 (k + 2 * xs.length)) ∧ Own lo hi w' e cSt 2 v (mkStep k xs.length) ∧ Only lo hi w w' := by
  obtain ⟨hr, hlt⟩ := hv
  have hr0 := hr
  obtain ⟨hl, hs⟩ := hr0
  rcases hs with ⟨rfl, hn⟩ | ⟨g, cap, cur, rfl, hg, hh, hnc, hcm, hsz, htk⟩
  · obtain rfl : xs = [] := List.eq_nil_of_length_eq_zero hn
    clear hl hr hn hlt
    go_enter Try.func84, Try.ntmps84
    go_wp2
    go_loopw [1, 5] (fun kk ii wr => kk = .int .i64 k ∧ ii = .int .i64 0 ∧ wr = w) (fun _ _ _ => 0)
    case atStart => exact ⟨rfl, rfl, rfl⟩
    case round =>
      obtain ⟨rfl, rfl, rfl⟩ := hrel
      go_wp2
      go_ret
      exact ⟨by simp, by simpa [mkStep] using Own.nil lo hi wr e cSt 2, Only.refl _ _ _⟩
  · have hglt := hlt g rfl
    unfold maxLen at hcm
    have HL := Lib.hid hl
    clear hh htk hsz hlt hl
    go_enter Try.func84, Try.ntmps84
    go_wp2
    go_loopw [1, 5] (fun kk ii wr => ∃ i : Nat, i ≤ xs.length ∧ kk = .int .i64 (k + 2 * i) ∧ ii = .int .i64 i ∧ wr.ownsRow lo e 2 (.slice (some ⟨g, 0, none⟩) xs.length cap) xs.length ((mkStep k i ++ xs.drop i).flatMap cSt) ∧ Only lo hi w wr) (fun _ ii _ => xs.length - (intOf ii).toNat)
    case atStart => exact ⟨0, Nat.zero_le _, by simp, rfl, by simpa [mkStep] using hr, Only.refl _ _ _⟩
    case round =>
      obtain ⟨i, hi', rfl, rfl, hrow, honly⟩ := hrel
      by_cases hlt : i < xs.length
      · have hrow0 := hrow
        have hc0 := World.ownsRow.cellAt hrow (i * 2) (by omega)
        have hf0 := World.ownsRow.frozenAt hrow (i * 2)
        have hc1 := World.ownsRow.cellAt hrow (i * 2 + 1) (by omega)
        have hf1 := World.ownsRow.frozenAt hrow (i * 2 + 1)
        have hst := (World.ownsRow.stored (World.ownsRow.stored hrow0 (i * 2) (.int .i64 (k + 2 * (i : Int)))).1 (i * 2 + 1) (.bool (((k + 2 * (i : Int) + 1) % 3 == 0)))).1
        rw [markStep_step k xs i hlt] at hst
        have HST := Lib.hid hst
        have hxi : (mkStep k i ++ xs.drop i)[i]? = some xs[i] := by
          rw [List.getElem?_append_right (by simp [mkStep_len]), mkStep_len]; simp [hlt]
        have hcx0 : ((mkStep k i ++ xs.drop i).flatMap cSt)[i * 2]? = some (.int .i64 xs[i].1) := flat_at cSt_len hxi 0 _ rfl
        rw [hcx0] at hc0
        have hcx1 : ((mkStep k i ++ xs.drop i).flatMap cSt)[i * 2 + 1]? = some (.bool xs[i].2) := flat_at cSt_len hxi 1 _ rfl
        rw [hcx1] at hc1
        clear hcx0 hcx1 hxi hst hrow hrow0 hr
        go_wp2
        go_roundw
        case rel => exact ⟨i + 1, by omega, by go_num, by go_num, HST.out, ((honly.setCell (.inl ⟨hg, hglt⟩) _).setCell (.inl ⟨hg, hglt⟩) _)⟩
        case measure => simp [intOf]; omega
      · obtain rfl : i = xs.length := by omega
        have hown : Own lo hi wr e cSt 2 (.slice (some ⟨g, 0, none⟩) xs.length cap) (mkStep k xs.length) := by
          refine ⟨?_, fun g' hg' => by cases hg'; exact hglt⟩
          rw [mkStep_len]
          simpa using hrow
        clear hrow hr
        go_wp2
        go_ret
        exact ⟨rfl, hown, honly⟩
set_option maxHeartbeats 4000000 in
theorem heldStepS_any (v : Value) (n : Nat) (k : Int) (w : World) (hv : SlE w cSt 2 v (mkStep k n)) (hk : 0 ≤ k) (hb : k + 2 * n ≤ 4611686018427387904) :
    Calls Try.prog 85 #[v, .int .i64 k] w fun en w' => en = .returned (.int .i64 (k + 2 * n)) ∧ Below w.heap.size w w' := by
  obtain ⟨A, c, rfl, hl, hm, hx⟩ := hv
  rw [mkStep_len] at hl
  simp only [mkStep_len]
  unfold maxLen at hm
  go_enter Try.func85, Try.ntmps85
  go_wp2
  go_loopw [1, 5] (fun kk ii wr => ∃ (i : Nat) (u : World), i ≤ n ∧ kk = .int .i64 (k + 2 * i) ∧ ii = .int .i64 i ∧ wr = ext w u) (fun _ ii _ => n - (intOf ii).toNat)
  case atStart => exact ⟨0, w, Nat.zero_le _, by simp, rfl, ext_self w⟩
  case round =>
    obtain ⟨i, u, hi', rfl, rfl, rfl⟩ := hrel
    by_cases hlt : i < n
    · obtain ⟨b, o, rfl, -, hb1, hc⟩ := hx i _ (mkStep_at k hlt)
      have c0 := hc 0 _ rfl
      have c1 := hc 1 _ rfl
      simp only [Nat.add_zero] at c0
      clear hc hx
      go_wp2
      go_roundw
      case rel => exact ⟨i + 1, u, by omega, by go_num, by go_num, rfl⟩
      case measure => simp [intOf]; omega
    · obtain rfl : i = n := by omega
      go_wp2
      go_ret
      exact ⟨rfl, ext_below _ _⟩
theorem toStep_any (p : St) (w : World) :
    Calls Try.prog 135 #[.agg #[.int .i64 p.1, .bool p.2]] w fun e w' => e = .returned (.agg #[.int .i64 p.1, .bool p.2]) ∧ Below w.heap.size w w' := by
  obtain ⟨a0, a1⟩ := p
  go_enter Try.func135, Try.ntmps135
  go_wp2
  refine bodyPost_ret (v := .agg #[.int .i64 a0, .bool a1]) (by simp [results, Try.results135, go_sem]) rfl ⟨rfl, ?_⟩
  repeat (first | exact Below.refl _ _ | refine Below.setCell ?_ (by simp <;> omega) _ | refine Below.alloc ?_ (by simp <;> omega) _)
theorem szStepS_any (A : Option Addr) (n c : Nat) (left : Int) (w : World) (hn : n ≤ maxLen) (h0 : 0 ≤ left) (h1 : left ≤ 1048576) :
    Calls Try.prog 77 #[.slice A n c, .int .i64 left] w fun e w' => e = .returned (.int .i64 (if left < n then -1 else left - n)) ∧ w' = w := by
  unfold maxLen at hn
  by_cases hlt : left < n
  · rw [if_pos hlt]
    go_enter Try.func77, Try.ntmps77
    go_wp2
    go_ret
    exact ⟨rfl, rfl⟩
  · rw [if_neg hlt]
    go_enter Try.func77, Try.ntmps77
    go_wp2
    go_ret
    exact ⟨rfl, rfl⟩
theorem elStep : ElemOk Try.prog 42 101 (.agg #[.int .i64 0, .bool false]) 2 16 := ⟨Try.underlying42, by kernel_rfl, rfl, by omega⟩
theorem toStep_step (xs : List St) (i : Nat) (x : St) (hx : xs[i]? = some x) :
    ((((xs.take i ++ List.replicate (xs.length - i) (0, false)).flatMap cSt).set (i * 2) (.int .i64 x.1)).set (i * 2 + 1) (.bool x.2)) = (xs.take (i + 1) ++ List.replicate (xs.length - (i + 1)) (0, false)).flatMap cSt := by
  have hi := (List.getElem?_eq_some_iff.1 hx).1
  rw [take_snoc hx, show xs.length - i = (xs.length - (i + 1)) + 1 by omega, List.replicate_succ]
  have hl : ((xs.take i).flatMap cSt).length = i * 2 := by rw [flatStep_len, List.length_take]; congr 1; omega
  simp only [List.flatMap_append, List.flatMap_cons, List.flatMap_nil, List.append_nil, List.append_assoc]
  rw [List.set_append_right _ _ (by omega), List.set_append_right _ _ (by omega), hl]
  simp [cSt]
set_option maxHeartbeats 1000000 in
theorem toStepS_any (v : Value) (xs : List St) (w : World) (hv : SlE w cSt 2 v xs) (hn : xs.length ≤ 1048576) :
    Calls Try.prog 80 #[v] w fun en w' => ∃ v', en = .returned v' ∧ Own w.heap.size w'.heap.size w' 101 cSt 2 v' xs ∧ Below w.heap.size w w' := by
  obtain ⟨A, c, rfl, hl, hm, hx⟩ := hv
  go_enter Try.func80, Try.ntmps80
  go_wp2_with (at_make; refine wpList_makeE (P := Try.prog) cSt (0, false) elStep rfl rfl rfl _ _ rfl w.heap.size xs.length _ (by rfl) (by rfl) rfl (by omega) (by unfold maxLen; omega) (Nat.le_refl _) ?_; intro w1 hrow1 hbel1)
  go_loopw [4] (fun ii wr => ∃ i : Nat, i ≤ xs.length ∧ ii = .int .i64 i ∧ wr.ownsRow w.heap.size 101 2 (.slice (some ⟨w.heap.size, 0, none⟩) xs.length xs.length) xs.length ((xs.take i ++ List.replicate (xs.length - i) (0, false)).flatMap cSt) ∧ Below w.heap.size w wr) (fun ii _ => xs.length - (intOf ii).toNat)
  case atStart => exact ⟨0, Nat.zero_le _, rfl, by simpa using hrow1, hbel1⟩
  case round =>
    obtain ⟨i, hi', rfl, hrow, hbel⟩ := hrel
    by_cases hlt : i < xs.length
    · have hxi : xs[i]? = some xs[i] := List.getElem?_eq_getElem hlt
      obtain ⟨b, o, rfl, -, hb1, hc⟩ := hx i _ hxi
      have hstep := toStep_step xs i _ hxi
      have hcur : (xs.take i ++ List.replicate (xs.length - i) (0, false))[i]? = some (0, false) := by
        rw [List.getElem?_append_right (by rw [List.length_take]; omega), List.getElem?_replicate, if_pos (by rw [List.length_take]; omega)]
      generalize xs[i] = x at hc hstep hxi
      have hs := hbel.size
      have c0 := (hbel.cell (p := ⟨b, o + i * 2 + 0, none⟩) hb1).trans (hc 0 _ rfl)
      have c1 := (hbel.cell (p := ⟨b, o + i * 2 + 1, none⟩) hb1).trans (hc 1 _ rfl)
      simp only [Nat.add_zero] at c0
      clear hc hx hxi hrow1 hbel1
      go_wp2_with fail
      refine (toStep_any x _).mono ?_; rintro e w2 ⟨rfl, hb2⟩
      have hrow2 := ownsRow_below hrow hb2 (Nat.le_refl _)
      have d0 := World.ownsRow.cellAt hrow2 (i * 2) (by omega)
      have f0 := World.ownsRow.frozenAt hrow2 (i * 2)
      have e0 := flat_at cSt_len hcur 0 _ rfl
      simp only [Nat.add_zero] at e0
      rw [e0] at d0
      clear e0
      have d1 := World.ownsRow.cellAt hrow2 (i * 2 + 1) (by omega)
      have f1 := World.ownsRow.frozenAt hrow2 (i * 2 + 1)
      have e1 := flat_at cSt_len hcur 1 _ rfl
      rw [e1] at d1
      clear e1
      have hst := (World.ownsRow.stored (World.ownsRow.stored hrow2 (i * 2) (.int .i64 x.1)).1 (i * 2 + 1) (.bool x.2)).1
      rw [hstep] at hst
      have HST := Lib.hid hst
      clear hst hstep hcur hrow hrow2
      go_wp2
      go_roundw
      case rel => exact ⟨i + 1, by omega, by go_num, HST.out, (((hbel.trans (hb2.mono hs)).setCell (Nat.le_refl _) _).setCell (Nat.le_refl _) _)⟩
      case measure => simp [intOf]; omega
    · obtain rfl : i = xs.length := by omega
      go_wp2
      go_ret
      exact ⟨_, rfl, Own.of_row hrow rfl (by simp), hbel⟩
end Go.Proofs.Ytbkaoghlkdbofaa

/- Walks in the laws' helpers: measured, copied, compared, marked, looked at. -/
namespace Go.Proofs.Ytbkaoghlkdbofaa
set_option linter.unusedVariables false
set_option linter.unusedSimpArgs false
open Go.ChangeShapes Go.WideShapes Go.ChangeAt Go.RowKit
attribute [local go_sem] ext_cell ext_frozen ext_lt ext_lt1 ext_lt2 ext_lt3 ltn2 ltn3 ltn13 lts1 lts2 lts3

def WkO (lo hi : Nat) (w : World) (v : Value) (k : Wk) : Prop :=
  ∃ ss, v = .agg #[.int .i64 k.1, ss] ∧ Own lo hi w 101 cSt 2 ss k.2
theorem WkO.view {lo hi : Nat} {w : World} {v : Value} {k : Wk} (h : WkO lo hi w v k) : WkV lo hi w v k := by
  obtain ⟨ss, rfl, h1⟩ := h
  exact ⟨ss, rfl, h1.sl cSt_len⟩
theorem WkO.below {lo hi : Nat} {w w' : World} {v : Value} {k : Wk} (h : WkO lo hi w v k) {B : Nat} (hb : Below B w w') (hB : hi ≤ B) : WkO lo hi w' v k := by
  obtain ⟨ss, rfl, h1⟩ := h
  exact ⟨ss, rfl, h1.below hb hB⟩
theorem WkO.only {lo hi : Nat} {w w' : World} {v : Value} {k : Wk} (h : WkO lo hi w v k) {l r : Nat} (hb : Only l r w w') (ho : hi ≤ l ∨ r ≤ lo) : WkO lo hi w' v k := by
  obtain ⟨ss, rfl, h1⟩ := h
  exact ⟨ss, rfl, h1.only hb ho⟩
theorem WkO.mono {lo hi : Nat} {w : World} {v : Value} {k : Wk} (h : WkO lo hi w v k) {lo' hi' : Nat} (h1 : lo' ≤ lo) (h2 : hi ≤ hi') : WkO lo' hi' w v k := by
  obtain ⟨ss, rfl, g1⟩ := h
  exact ⟨ss, rfl, g1.mono h1 h2⟩

theorem szWalk_any (v : Value) (k : Wk) (left : Int) (w : World) (hv : WkV 0 w.heap.size w v k) (h0 : 0 ≤ left) (h1 : left ≤ 1048576) :
    Calls Try.prog 24 #[v, .int .i64 left] w fun e w' => e = .returned (.int .i64 (if left < k.2.length then -1 else left - k.2.length)) ∧ Below w.heap.size w w' := by
  obtain ⟨ss, rfl, ⟨A1, c1, rfl, hl1, hm1, -⟩⟩ := hv
  have hc := szStepS_any A1 k.2.length c1 left
  by_cases g1 : left < k.2.length
  · rw [if_pos g1] at hc ⊢
    have HC := Lib.hid hc
    clear hc
    go_enter Try.func24, Try.ntmps24
    go_wp2_with fail
    refine (HC.out _ (by omega) h0 h1).mono ?_; rintro e w1 ⟨rfl, rfl⟩
    go_wp2
    go_ret
    exact ⟨rfl, (Below.refl _ _).alloc (Nat.le_refl _) _⟩
  · rw [if_neg g1] at hc ⊢
    have HC := Lib.hid hc
    clear hc
    go_enter Try.func24, Try.ntmps24
    go_wp2_with fail
    refine (HC.out _ (by omega) h0 h1).mono ?_; rintro e w1 ⟨rfl, rfl⟩
    go_wp2
    go_ret
    exact ⟨rfl, (Below.refl _ _).alloc (Nat.le_refl _) _⟩

def szWk (k : Wk) (left : Int) : Int := if left < k.2.length then -1 else left - k.2.length
theorem szWk_le (k : Wk) (left : Int) (h : ¬ szWk k left < 0) : k.2.length ≤ left.toNat ∧ 0 ≤ szWk k left ∧ szWk k left ≤ left := by
  unfold szWk at h ⊢
  split at h
  · omega
  · rw [if_neg (by omega)]; omega
theorem szWalkD_any (v : Value) (k : Wk) (left : Int) (w : World) (hv : WkV 0 w.heap.size w v k) (h0 : 0 ≤ left) (h1 : left ≤ 1048576) :
    Calls Try.prog 24 #[v, .int .i64 left] w fun e w' => e = .returned (.int .i64 (szWk k left)) ∧ Below w.heap.size w w' := szWalk_any v k left w hv h0 h1

set_option maxHeartbeats 1000000 in
theorem toWalk_any (v : Value) (k : Wk) (w : World) (hv : WkV 0 w.heap.size w v k) (h1 : k.2.length ≤ 1048576) :
    Calls Try.prog 26 #[v] w fun e w' => ∃ v', e = .returned v' ∧ WkO w.heap.size w'.heap.size w' v' k ∧ Below w.heap.size w w' := by
  obtain ⟨ss, rfl, hss⟩ := hv
  obtain ⟨st, steps⟩ := k
  go_enter Try.func26, Try.ntmps26
  go_wp2_with fail
  refine (toStepS_any ss steps _ ?_ h1).mono ?_
  · exact SlE.keep hss (by repeat (first | exact Below.refl _ _ | refine Below.setCell ?_ (by simp <;> omega) _ | refine Below.alloc ?_ (by simp <;> omega) _))
  rintro e w1 ⟨v1, rfl, ho1', hb1⟩
  have b1 := (((Blk.new (w.alloc _) _ _ (w.heap.size + 1) (by simp)).alloc _)).keep hb1
  have b2 := (Blk.new ((w.alloc _).alloc _) _ _ (w.heap.size + 1 + 1) (by simp)).keep hb1
  have o1 : Only w.heap.size (w.heap.size + 3) w w1 := (((Only.refl _ _ _).alloc _).alloc _ |>.alloc _).trans (Only.of_below hb1 _ _)
  have ho1 : Own (w.heap.size + 3) w1.heap.size w1 _ cSt 2 v1 steps := ho1'.mono (by simp) (Nat.le_refl _)
  clear ho1'
  obtain ⟨A1, n1, c1, rfl⟩ := ho1.shape
  have s1 : w.heap.size + 3 ≤ w1.heap.size := by have := hb1.size; simpa using this
  clear hb1
  have x0 : w1.cell? ⟨w.heap.size + 1, 0, none⟩ = some _ := b1.cell 0
  have x1 : w1.cell? ⟨w.heap.size + 1, 1, none⟩ = some _ := b1.cell 1
  have x2 : w1.cell? ⟨w.heap.size + 1 + 1, 0, none⟩ = some _ := b2.cell 0
  have x3 : w1.cell? ⟨w.heap.size + 1 + 1, 1, none⟩ = some _ := b2.cell 1
  have y0 := b1.frozen 0
  have y1 := b1.frozen 1
  have y2 := b2.frozen 0
  have y3 := b2.frozen 1
  go_wp2_with fail
  have oz : Only w.heap.size (w.heap.size + 3) w1 _ := (((Only.refl _ _ w1).setCell (p := ⟨w.heap.size + 1 + 1, 1, none⟩) (.inl (by simp <;> omega)) (.slice A1 n1 c1)).setCell (p := ⟨w.heap.size + 1, 0, none⟩) (.inl (by simp <;> omega)) (.int .i64 st)).setCell (p := ⟨w.heap.size + 1, 1, none⟩) (.inl (by simp <;> omega)) (.slice A1 n1 c1)
  refine bodyPost_ret (v := .agg #[.int .i64 st, .slice A1 n1 c1]) (by simp [results, Try.results26, go_sem, x0, x1]) rfl ⟨_, rfl, ⟨_, rfl, (ho1.only oz (.inr (Nat.le_refl _))).mono (by omega) (by simp)⟩, (o1.trans oz).below (Nat.le_refl _) (Nat.le_refl _)⟩

set_option maxHeartbeats 1000000 in
theorem eqWalk_same (v1 v2 : Value) (k : Wk) (w : World) (hv1 : WkV 0 w.heap.size w v1 k) (hv2 : WkV 0 w.heap.size w v2 k) :
    Calls Try.prog 28 #[v1, v2] w fun e w' => e = .returned (.bool true) ∧ Below w.heap.size w w' := by
  obtain ⟨ss1, rfl, hs1⟩ := hv1
  obtain ⟨ss2, rfl, hs2⟩ := hv2
  obtain ⟨st, steps⟩ := k
  have hb0 : Below w.heap.size w ((w.alloc (.cells #[.int .i64 st, ss1] 44)).alloc (.cells #[.int .i64 st, ss2] 44)) := ((Below.refl _ _).alloc (Nat.le_refl _) _).alloc (by simp) _
  go_enter Try.func28, Try.ntmps28
  go_wp2_with fail
  refine (eqStepS_same ss1 ss2 steps _ (SlE.keep hs1 hb0) (SlE.keep hs2 hb0)).mono ?_
  rintro e w1 ⟨rfl, hb1⟩
  go_wp2_with fail
  go_ret
  exact ⟨rfl, below_trans hb0 hb1⟩

set_option maxHeartbeats 1000000 in
theorem markWalk_any (lo hi : Nat) (v : Value) (x : Wk) (k : Int) (w : World) (hv : WkO lo hi w v x) (hw : hi ≤ w.heap.size) (hk : 0 ≤ k) (h1 : x.2.length ≤ 1048576) (hk2 : k ≤ 1099511627776) :
    Calls Try.prog 29 #[v, .int .i64 k] w fun e w' => e = .returned (.int .i64 (k + 2 * x.2.length)) ∧ WkO lo hi w' v (x.1, mkStep k x.2.length) ∧ Only lo hi w w' := by
  obtain ⟨ss, rfl, hss⟩ := hv
  have hb0 : Below w.heap.size w (w.alloc (.cells #[.int .i64 x.1, ss] 44)) := (Below.refl _ _).alloc (Nat.le_refl _) _
  go_enter Try.func29, Try.ntmps29
  go_wp2_with fail
  refine (markStepS_any lo hi _ ss x.2 k _ (hss.below hb0 hw) hk (by omega)).mono ?_
  rintro e w1 ⟨rfl, hss1, ho1⟩
  have ho2 := (Only.of_below hb0 lo hi).trans ho1
  go_wp2_with fail
  go_ret
  exact ⟨rfl, ⟨ss, rfl, hss1⟩, ho2⟩

set_option maxHeartbeats 1000000 in
theorem heldWalk_any (v : Value) (st : Int) (n : Nat) (k : Int) (w : World) (hv : WkV 0 w.heap.size w v (st, mkStep k n)) (hk : 0 ≤ k) (h1 : n ≤ 1048576) (hk2 : k ≤ 1099511627776) :
    Calls Try.prog 30 #[v, .int .i64 k] w fun e w' => e = .returned (.int .i64 (k + 2 * n)) ∧ Below w.heap.size w w' := by
  obtain ⟨ss, rfl, hss⟩ := hv
  have hb0 : Below w.heap.size w (w.alloc (.cells #[.int .i64 st, ss] 44)) := (Below.refl _ _).alloc (Nat.le_refl _) _
  go_enter Try.func30, Try.ntmps30
  go_wp2_with fail
  refine (heldStepS_any ss n k _ (SlE.keep hss hb0) hk (by omega)).mono ?_
  rintro e w1 ⟨rfl, hb1⟩
  go_wp2_with fail
  go_ret
  exact ⟨rfl, below_trans hb0 hb1⟩
end Go.Proofs.Ytbkaoghlkdbofaa

/- A walk is marked, with room for what was marked ahead of it. -/
namespace Go.Proofs.Ytbkaoghlkdbofaa
set_option linter.unusedVariables false
set_option linter.unusedSimpArgs false
open Go.ChangeShapes Go.WideShapes Go.ChangeAt Go.RowKit
attribute [local go_sem] ext_cell ext_frozen ext_lt ext_lt1 ext_lt2 ext_lt3 ltn2 ltn3 ltn13 lts1 lts2 lts3
set_option maxHeartbeats 1000000 in
theorem markWalk_wide (lo hi : Nat) (v : Value) (x : Wk) (k : Int) (w : World) (hv : WkO lo hi w v x) (hw : hi ≤ w.heap.size) (hk : 0 ≤ k) (h1 : x.2.length ≤ 1048576) (hk2 : k ≤ 4398046511104) :
    Calls Try.prog 29 #[v, .int .i64 k] w fun e w' => e = .returned (.int .i64 (k + 2 * x.2.length)) ∧ WkO lo hi w' v (x.1, mkStep k x.2.length) ∧ Only lo hi w w' := by
  obtain ⟨ss, rfl, hss⟩ := hv
  have hb0 : Below w.heap.size w (w.alloc (.cells #[.int .i64 x.1, ss] 44)) := (Below.refl _ _).alloc (Nat.le_refl _) _
  go_enter Try.func29, Try.ntmps29
  go_wp2_with fail
  refine (markStepS_any lo hi _ ss x.2 k _ (hss.below hb0 hw) hk (by omega)).mono ?_
  rintro e w1 ⟨rfl, hss1, ho1⟩
  have ho2 := (Only.of_below hb0 lo hi).trans ho1
  go_wp2_with fail
  go_ret
  exact ⟨rfl, ⟨ss, rfl, hss1⟩, ho2⟩
end Go.Proofs.Ytbkaoghlkdbofaa

/- Plain: the steps of the product from a vertex, as the reference lists them. -/
namespace Go.Proofs.Ytbkaoghlkdbofaa
set_option linter.unusedVariables false
set_option linter.unusedSimpArgs false
abbrev PS := St × Int × Int
def psA (g : Gr) (a : Au) (x s : Nat) (y : Arc) : List PS := (mem 12 (aft a (bit s) (valAt g x) y.2.1.toNat)).map fun (q : Nat) => (y.1, y.2.2, (q : Int))
def prodSteps (g : Gr) (a : Au) (x s : Nat) : List PS := (arcsOf g (x : Int)).flatMap (psA g a x s)
def psV (n : Nat) (p : PS) : Nat := p.2.1.toNat * n + p.2.2.toNat
theorem psV_next (g : Gr) (a : Au) (x s : Nat) : (prodSteps g a x s).map (psV a.accept.length) = nextV g a x s := by
  unfold prodSteps nextV
  rw [List.map_flatMap]
  congr 1
  funext y
  unfold psA nextA
  rw [List.map_map]
  apply List.map_congr_left
  intro q _
  simp [psV]
theorem psA_len (g : Gr) (a : Au) (x s : Nat) (y : Arc) : (psA g a x s y).length ≤ 12 := by rw [psA, List.length_map]; exact mem_len _ _
theorem prodSteps_len {g : Gr} (hg : GrOk g) (a : Au) (x s : Nat) : (prodSteps g a x s).length ≤ 288 := by
  have h2 := flat_len (psA_len g a x s) (arcsOf g (x : Int))
  have h3 := arcs_len hg (x : Int)
  unfold prodSteps
  omega
theorem prodSteps_range {g : Gr} {a : Au} (hg : GrOk g) (ha : auOk a = true) {x s : Nat} {p : PS} (h : p ∈ prodSteps g a x s) : (0 ≤ p.2.1 ∧ p.2.1 ≤ (g.vals.length : Int) - 1) ∧ 0 ≤ p.2.2 ∧ p.2.2 < (a.accept.length : Int) := by
  obtain ⟨y, hy, hp⟩ := List.mem_flatMap.1 h
  obtain ⟨q, hq, rfl⟩ := List.mem_map.1 hp
  have h1 := (arc_range hg hy).2
  have h2 := aft_lt ha (bit s) (valAt g x) y.2.1.toNat
  rw [mem12 ha h2, mem_mem] at hq
  exact ⟨h1, by simp only; omega, by simp only; omega⟩
def foldTo (a : Au) (l set q : Nat) : Nat := (mem q set).foldl (aft1 a l) 0
theorem foldTo_no {a : Au} {l set q : Nat} (h : set.testBit q = false) : foldTo a l set (q + 1) = foldTo a l set q := by rw [foldTo, mem_no h]; rfl
theorem foldTo_yes {a : Au} {l set q : Nat} (h : set.testBit q = true) : foldTo a l set (q + 1) = aft1 a l (foldTo a l set q) q := by rw [foldTo, mem_yes h, List.foldl_append]; rfl
theorem foldTo_lt {a : Au} (h : auOk a = true) (l set q : Nat) : foldTo a l set q < 2 ^ a.accept.length := foldl_inv (P := fun m => m < 2 ^ a.accept.length) (fun m x hm => aft1_lt h l m x hm) _ _ (Nat.two_pow_pos _)
theorem foldTo_all {a : Au} (h : auOk a = true) {v s l : Nat} (hs : s < a.accept.length) : foldTo a l (cls a v s) a.accept.length = aft a (bit s) v l := by
  rw [aft_one v l (show s < 12 by have := (auOk_iff.1 h).1.2; omega), mem12 h (cls_lt h v s hs)]; rfl
end Go.Proofs.Ytbkaoghlkdbofaa

/- Plain: the nodes of a walk and when it is one of a graph. -/
namespace Go.Proofs.Ytbkaoghlkdbofaa
set_option linter.unusedVariables false
set_option linter.unusedSimpArgs false

def nodesL (g : Gr) (k : Wk) : List Int := k.1 :: k.2.map (stepTo g)
theorem nodesL_len (g : Gr) (k : Wk) : (nodesL g k).length = k.2.length + 1 := by simp [nodesL]
theorem nodesL_succ {g : Gr} {k : Wk} {i : Nat} {s : St} (h : k.2[i]? = some s) : (nodesL g k).take (i + 1 + 1) = (nodesL g k).take (i + 1) ++ [stepTo g s] := by
  refine take_snoc ?_
  rw [nodesL, List.getElem?_cons_succ, List.getElem?_map, h]; rfl
theorem nodesL_next {g : Gr} {k : Wk} {i : Nat} {s : St} (h : k.2[i]? = some s) : (nodesL g k)[i + 1]? = some (stepTo g s) := by rw [nodesL, List.getElem?_cons_succ, List.getElem?_map, h]; rfl
/-- the step leads from the node that the walk is at -/
def linkAt (g : Gr) (k : Wk) (i : Nat) : Bool := stepFrom g (k.2.getD i (0, false)) == (nodesL g k).getD i 0
def walkOk (g : Gr) (k : Wk) : Bool := grOk g && wi k.1 0 ((g.vals.length : Int) - 1) && decide (k.2.length ≤ 60) && (List.range k.2.length).all (linkAt g k)
/-- the nodes of a walk of the graph; none of another -/
def nodesOut (g : Gr) (k : Wk) : List Int := if walkOk g k = true then nodesL g k else []
theorem nodesOut_no {g : Gr} {k : Wk} (h : walkOk g k = false) : nodesOut g k = [] := by rw [nodesOut, h]; rfl
theorem nodesOut_yes {g : Gr} {k : Wk} (h : walkOk g k = true) : nodesOut g k = nodesL g k := by rw [nodesOut, h]; rfl
theorem linkAt_eq {g : Gr} {k : Wk} {i : Nat} {s : St} {x : Int} (h : k.2[i]? = some s) (hx : (nodesL g k)[i]? = some x) : linkAt g k i = (stepFrom g s == x) := by
  rw [linkAt, List.getD_eq_getElem?_getD, h, List.getD_eq_getElem?_getD, hx]; rfl
theorem walkOk_long {g : Gr} {k : Wk} (h : 60 < k.2.length) : walkOk g k = false := by
  rw [walkOk, show decide (k.2.length ≤ 60) = false by simp; omega]
  simp
def walkAllowed (g : Gr) (c : Int) (k : Wk) : Bool := k.2.all (stepAllowed g c) && wi c 0 4 && walkOk g k
end Go.Proofs.Ytbkaoghlkdbofaa

/- Plain: the sets of states along a walk, and whether a walk matches. -/
namespace Go.Proofs.Ytbkaoghlkdbofaa
set_option linter.unusedVariables false
set_option linter.unusedSimpArgs false
/-- node i of a walk -/
def nodeAt (g : Gr) (k : Wk) (i : Nat) : Nat := ((nodesL g k).getD i 0).toNat
def letAt (g : Gr) (k : Wk) (i : Nat) : Nat := (stepLetter g (k.2.getD i (0, false))).toNat
/-- the states behind i steps -/
def setAt (g : Gr) (a : Au) (k : Wk) : Nat → Nat
  | 0 => bit a.start.toNat
  | i + 1 => aft a (setAt g a k i) (valAt g (nodeAt g k i)) (letAt g k i)
def setsL (g : Gr) (a : Au) (k : Wk) (n : Nat) : List Nat := (List.range n).map (setAt g a k)
theorem setsL_len (g : Gr) (a : Au) (k : Wk) (n : Nat) : (setsL g a k n).length = n := by simp [setsL]
theorem setsL_snoc (g : Gr) (a : Au) (k : Wk) (n : Nat) : setsL g a k (n + 1) = setsL g a k n ++ [setAt g a k n] := by simp [setsL, List.range_succ]
theorem setsL_at {g : Gr} {a : Au} {k : Wk} {n i : Nat} (h : i < n) : (setsL g a k n)[i]? = some (setAt g a k i) := by simp [setsL, h]
theorem setAt_lt {g : Gr} {a : Au} (ha : auOk a = true) (k : Wk) (i : Nat) : setAt g a k i < 2 ^ a.accept.length := by
  cases i with
  | zero => exact bit_lt (by have := (auOk_iff.1 ha).2.1; omega)
  | succ i => exact aft_lt ha _ _ _
theorem walkOk_parts {g : Gr} {k : Wk} (h : walkOk g k = true) : GrOk g ∧ (0 ≤ k.1 ∧ k.1 ≤ (g.vals.length : Int) - 1) ∧ k.2.length ≤ 60 ∧ ∀ i, i < k.2.length → linkAt g k i = true := by
  simp only [walkOk, Bool.and_eq_true, wi_iff, decide_eq_true_eq, List.all_eq_true, List.mem_range] at h
  exact ⟨grOk_iff.1 h.1.1.1, h.1.1.2, h.1.2, h.2⟩
theorem stepTo_of {g : Gr} {s : St} {e : Ed} (h : stepEd g s.1 = some e) : stepTo g s = arcTo s.2 e := by
  unfold stepTo stepFrom arcTo
  simp only [h]
  cases s.2 <;> rfl
theorem stepFrom_of {g : Gr} {s : St} {e : Ed} (h : stepEd g s.1 = some e) : stepFrom g s = arcTo (!s.2) e := by
  unfold stepFrom arcTo
  simp only [h]
  cases s.2 <;> rfl
theorem stepLetter_of {g : Gr} {s : St} {e : Ed} (h : stepEd g s.1 = some e) : stepLetter g s = arcLetter s.2 e := by
  unfold stepLetter arcLetter
  simp only [h]
theorem nodeAt_at {g : Gr} {k : Wk} {i : Nat} (h : i ≤ k.2.length) : (nodesL g k)[i]? = some ((nodesL g k).getD i 0) := by
  rw [List.getD_eq_getElem?_getD, List.getElem?_eq_getElem (by rw [nodesL_len]; omega)]; rfl
/-- the nodes of a walk of the graph are nodes of the graph, and its steps are edges of it -/
theorem walk_parts {g : Gr} {k : Wk} (h : walkOk g k = true) : ∀ {i : Nat}, i ≤ k.2.length → (0 ≤ (nodesL g k).getD i 0 ∧ (nodesL g k).getD i 0 ≤ (g.vals.length : Int) - 1) ∧
    (i < k.2.length → ∃ s e, k.2[i]? = some s ∧ stepEd g s.1 = some e ∧ stepFrom g s = (nodesL g k).getD i 0 ∧ stepTo g s = (nodesL g k).getD (i + 1) 0) := by
  obtain ⟨hg, hk, -, hl⟩ := walkOk_parts h
  have step : ∀ i, i < k.2.length → 0 ≤ (nodesL g k).getD i 0 → ∃ s e, k.2[i]? = some s ∧ stepEd g s.1 = some e ∧ stepFrom g s = (nodesL g k).getD i 0 ∧ stepTo g s = (nodesL g k).getD (i + 1) 0 := by
    intro i hi h0
    have hs : k.2[i]? = some k.2[i] := List.getElem?_eq_getElem hi
    generalize k.2[i] = s at hs
    have hlk := hl i hi
    rw [linkAt_eq hs (nodeAt_at (by omega)), beq_iff_eq] at hlk
    have hnx := nodesL_next (g := g) hs
    have hnx2 := nodeAt_at (g := g) (k := k) (i := i + 1) (by omega)
    rw [hnx] at hnx2
    cases he : stepEd g s.1 with
    | none =>
      have := stepFrom_neg.2 he
      omega
    | some e => exact ⟨s, e, hs, he, hlk, by injection hnx2⟩
  intro i
  induction i with
  | zero => exact fun _ => ⟨hk, fun hi => step 0 hi hk.1⟩
  | succ i ih =>
    intro hi
    obtain ⟨hr, hst⟩ := ih (by omega)
    obtain ⟨s, e, hs, he, hf, ht⟩ := hst (by omega)
    have hrange : 0 ≤ stepTo g s ∧ stepTo g s ≤ (g.vals.length : Int) - 1 := by
      rw [stepTo_of he]
      obtain ⟨_, hm, _⟩ := stepEd_ok he
      have := hg.edges e hm
      unfold arcTo
      split <;> omega
    rw [ht] at hrange
    exact ⟨hrange, fun hi2 => step (i + 1) hi2 hrange.1⟩
theorem nodeAt_lt {g : Gr} {k : Wk} (h : walkOk g k = true) {i : Nat} (hi : i ≤ k.2.length) : (nodesL g k)[i]? = some (nodeAt g k i : Int) ∧ nodeAt g k i < g.vals.length := by
  have h1 := (walk_parts h hi).1
  refine ⟨?_, ?_⟩
  · rw [nodeAt_at hi, nodeAt, Int.toNat_of_nonneg h1.1]
  · unfold nodeAt; omega
/-- step i: its edge, its letter, the node behind it -/
theorem walk_step {g : Gr} {k : Wk} (h : walkOk g k = true) {i : Nat} (hi : i < k.2.length) : ∃ s e, k.2[i]? = some s ∧ stepEd g s.1 = some e ∧ arcTo s.2 e = (nodeAt g k (i + 1) : Int) ∧ arcLetter s.2 e = (letAt g k i : Int) ∧ stepLetter g s = (letAt g k i : Int) ∧ letAt g k i < 6 := by
  obtain ⟨s, e, hs, he, -, ht⟩ := (walk_parts h (Nat.le_of_lt hi)).2 hi
  obtain ⟨hg, hm, _⟩ := stepEd_ok he
  have hl := hg.edges e hm
  have h1 := (walk_parts h (show i + 1 ≤ k.2.length from hi)).1
  have hsd : k.2.getD i (0, false) = s := by rw [List.getD_eq_getElem?_getD, hs]; rfl
  have hr : 0 ≤ arcLetter s.2 e ∧ arcLetter s.2 e ≤ 5 := by
    unfold arcLetter
    split <;> omega
  have hla : (letAt g k i : Int) = arcLetter s.2 e := by rw [letAt, hsd, stepLetter_of he, Int.toNat_of_nonneg hr.1]
  refine ⟨s, e, hs, he, ?_, hla.symm, by rw [stepLetter_of he, hla], by omega⟩
  rw [← stepTo_of he, ht, nodeAt, Int.toNat_of_nonneg h1.1]
/-! ### Whether a walk matches -/
def walkEnd (g : Gr) (k : Wk) : Int := if walkOk g k = true then (nodeAt g k k.2.length : Int) else -1
def matchB (g : Gr) (a : Au) (k : Wk) : Bool := (walkOk g k && auOk a) && acc a (setAt g a k k.2.length) (valAt g (nodeAt g k k.2.length))
def isWit (g : Gr) (a : Au) (x y : Int) (k : Wk) : Bool := (k.1 == x && walkEnd g k == y) && matchB g a k
def alongS (g : Gr) (a : Au) (k : Wk) : List Nat := if (walkOk g k && auOk a) = true then setsL g a k (k.2.length + 1) else []
def alongN (g : Gr) (a : Au) (k : Wk) : List Int := if (walkOk g k && auOk a) = true then nodesL g k else []
end Go.Proofs.Ytbkaoghlkdbofaa

/- The reference's steps of a graph: where they lead from and to, and whether they are allowed. -/
namespace Go.Proofs.Ytbkaoghlkdbofaa
set_option linter.unusedVariables false
set_option linter.unusedSimpArgs false
open Go.ChangeShapes Go.WideShapes Go.ChangeAt Go.RowKit
attribute [local go_sem] ext_cell ext_frozen ext_lt ext_lt1 ext_lt2 ext_lt3 ltn2 ltn3 ltn13 lts1 lts2 lts3

set_option maxHeartbeats 1000000 in
theorem specEdgeIndex (v : Value) (g : Gr) (id : Int) (w : World) (hv : GrV 0 w.heap.size w v g) :
    Calls Try.prog 134 #[v, .int .i64 id] w fun e w' => e = .returned (.int .i64 (edgeIdx g id)) ∧ Below w.heap.size w w' := by
  obtain ⟨vs, es, rfl, hvs, ⟨A2, c2, rfl, hl2, hm2, hx2⟩⟩ := hv
  obtain ⟨A1, n1, c1, rfl⟩ := hvs.shape
  unfold maxLen at hm2
  have hb0 : Below w.heap.size w (w.alloc (.cells #[.slice A1 n1 c1, .slice A2 g.edges.length c2] 31)) := (Below.refl _ _).alloc (Nat.le_refl _) _
  have HX := Lib.hid hx2
  clear hx2 hvs
  go_enter Try.func134, Try.ntmps134
  go_wp2_with fail
  go_loop [5] (fun ii => ∃ i : Nat, i ≤ g.edges.length ∧ ii = .int .i64 i ∧ ∀ e ∈ g.edges.take i, ¬ e.1 = id) (fun ii => g.edges.length - (intOf ii).toNat)
  case atStart => exact ⟨0, Nat.zero_le _, rfl, by simp⟩
  case round =>
    obtain ⟨i, hi, rfl, hno⟩ := hrel
    have HN := Lib.hid hno
    clear hno
    by_cases hlt : i < g.edges.length
    · have hxi : g.edges[i]? = some g.edges[i] := List.getElem?_eq_getElem hlt
      generalize g.edges[i] = x at hxi
      obtain ⟨b, o, rfl, -, hb, hc⟩ := HX.out i x hxi
      have c0 := hc 0 _ rfl
      simp only [Nat.add_zero] at c0
      have HXI := Lib.hid hxi
      clear hc hxi
      by_cases hp : x.1 = id
      · have hq : (x.1 == id) = true := by simp [hp]
        have hres : edgeIdx g id = i := edgeIdx_some HXI.out hp HN.out
        have HR := Lib.hid hres
        clear hres hp
        go_wp2_with fail
        go_ret
        exact ⟨by rw [HR.out]; rfl, hb0⟩
      · have hq : (x.1 == id) = false := by simp [hp]
        have HP := Lib.hid hp
        clear hp
        go_wp2_with fail
        go_round
        case rel =>
          refine ⟨i + 1, by omega, by go_num, fun y hy => ?_⟩
          rw [take_snoc HXI.out] at hy
          rcases List.mem_append.1 hy with hy | hy
          · exact HN.out y hy
          · obtain rfl : y = x := by simpa using hy
            exact HP.out
        case measure => simp [intOf]; omega
    · obtain rfl : i = g.edges.length := by omega
      have hres : edgeIdx g id = -1 := edgeIdx_none (fun x hx => HN.out x (by rw [List.take_length]; exact hx))
      have HR := Lib.hid hres
      clear hres
      go_wp2_with fail
      go_ret
      exact ⟨by rw [HR.out]; rfl, hb0⟩





theorem getDS_of {xs : List Int} {i : Nat} {x : Int} (h : xs[i]? = some x) : xs.getD i 0 = x := by rw [List.getD_eq_getElem?_getD, h]; rfl

end Go.Proofs.Ytbkaoghlkdbofaa

/- The reference's walks: their nodes, and when they are walks of a graph. -/
namespace Go.Proofs.Ytbkaoghlkdbofaa
set_option linter.unusedVariables false
set_option linter.unusedSimpArgs false
open Go.ChangeShapes Go.WideShapes Go.ChangeAt Go.RowKit
attribute [local go_sem] ext_cell ext_frozen ext_lt ext_lt1 ext_lt2 ext_lt3 ltn2 ltn3 ltn13 lts1 lts2 lts3

theorem row_shapeS {W : World} {base k n : Nat} {e : TypeId} {v : Value} {cs : List Value} (h : W.ownsRow base e k v n cs) (hn : n ≠ 0) : ∃ g c, v = .slice (some ⟨g, 0, none⟩) n c ∧ base ≤ g ∧ g < W.heap.size ∧ n ≤ c ∧ c ≤ maxLen := by
  have hlt := h.lt
  obtain ⟨hl, hs⟩ := h
  rcases hs with ⟨_, h0⟩ | ⟨g, cap, cur, rfl, hg, hh, hnc, hcm, r⟩
  · exact absurd h0 hn
  · exact ⟨g, cap, rfl, hg, (hlt g rfl).2, hnc, hcm⟩

set_option maxRecDepth 100000 in
set_option maxHeartbeats 8000000 in
theorem specNodes (v1 v2 : Value) (g : Gr) (k : Wk) (w : World) (hv1 : GrV 0 w.heap.size w v1 g) (hv2 : WkV 0 w.heap.size w v2 k) :
    Calls Try.prog 78 #[v1, v2] w fun en w' => ∃ v, en = .returned (.tuple #[v, .bool (walkOk g k)]) ∧ Own w.heap.size w'.heap.size w' 3 cI 1 v (nodesOut g k) ∧ Below w.heap.size w w' := by
  have hv0 := hv1
  obtain ⟨vs, es, rfl, ⟨A1, c1, rfl, hl1, hm1, -⟩, hes⟩ := hv1
  obtain ⟨A2, c2, rfl, hl2, hm2, hx2⟩ := hes
  have HX2 := Lib.hid hx2
  obtain ⟨ss, rfl, ⟨A3, c3, rfl, hl3, hm3, hx3⟩⟩ := hv2
  unfold maxLen at hm1 hm2 hm3
  obtain ⟨st, steps⟩ := k
  simp only at *
  have hb0 : Below w.heap.size w ((w.alloc (.cells #[.slice A1 g.vals.length c1, .slice A2 g.edges.length c2] 31)).alloc (.cells #[.int .i64 st, .slice A3 steps.length c3] 44)) := ((Below.refl _ _).alloc (Nat.le_refl _) _).alloc (by simp) _
  have HX3 := Lib.hid hx3
  have hwo : walkOk g (st, steps) = (grOk g && wi st 0 ((g.vals.length : Int) - 1) && decide (steps.length ≤ 60) && (List.range steps.length).all (linkAt g (st, steps))) := rfl
  have HW := Lib.hid hwo
  clear hx3 hx2 hwo
  have hvg := specValidGraph _ g _ (hv0.keep hb0)
  have HV := Lib.hid hvg
  clear hvg
  go_enter Try.func78, Try.ntmps78
  go_wp2_with fail
  refine HV.out.mono ?_
  rintro e w1 ⟨rfl, hb1⟩
  have b0 := ((Blk.new w _ _ w.heap.size rfl).alloc _).keep hb1
  have b1 := (Blk.new (w.alloc _) _ _ (w.heap.size + 1) (by simp)).keep hb1
  have hb2 := below_trans hb0 hb1
  clear hb0 hb1 HV
  have x0 : w1.cell? ⟨w.heap.size, 0, none⟩ = some _ := b0.cell 0
  have x1 : w1.cell? ⟨w.heap.size, 1, none⟩ = some _ := b0.cell 1
  have y0 : w1.cell? ⟨w.heap.size + 1, 0, none⟩ = some _ := b1.cell 0
  have y1 : w1.cell? ⟨w.heap.size + 1, 1, none⟩ = some _ := b1.cell 1
  have hlt1 := b1.lt
  have HWI := Lib.hid l1In_any
  cases hg : grOk g with
  | false =>
    have hfin : walkOk g (st, steps) = false := by rw [HW.out, hg]; rfl
    have HF := Lib.hid hfin
    clear HW hfin hg
    go_wp2_with fail
    go_ret2
    exact ⟨_, by rw [HF.out]; rfl, by rw [nodesOut_no HF.out]; exact (Own.of_row (World.ownsRow_lit _ #[] 0 (Nat.le_refl _) (by decide) rfl) rfl rfl).mono hb2.size (Nat.le_refl _), hb2.alloc hb2.size _⟩
  | true =>
    have q1 : IntKind.i64.wrap ((g.vals.length : Int) - 1) = (g.vals.length : Int) - 1 := IntWalk.i64_in _ (by omega)
    cases hs : wi st 0 ((g.vals.length : Int) - 1) with
    | false =>
      have hfin : walkOk g (st, steps) = false := by rw [HW.out, hg, hs]; rfl
      have HF := Lib.hid hfin
      clear HW hfin hg
      go_wp2_with (go_at_call 106; refine (HWI.out _ _ _ _).mono ?_; rintro e w1 ⟨rfl, rfl⟩)
      go_ret2
      exact ⟨_, by rw [HF.out]; rfl, by rw [nodesOut_no HF.out]; exact (Own.of_row (World.ownsRow_lit _ #[] 0 (Nat.le_refl _) (by decide) rfl) rfl rfl).mono hb2.size (Nat.le_refl _), hb2.alloc hb2.size _⟩
    | true =>
      by_cases hlen : steps.length ≤ 60
      · have hlen' : decide ((steps.length : Int) > 60) = false := by simp; omega
        have hfin : walkOk g (st, steps) = (List.range steps.length).all (linkAt g (st, steps)) := by rw [HW.out, hg, hs]; simp [hlen]
        have HF := Lib.hid hfin
        have HG := Lib.hid hg
        clear HW hfin hg
        go_wp2_with (go_at_call 106; refine (HWI.out _ _ _ _).mono ?_; rintro e w1 ⟨rfl, rfl⟩)
        have hst0 : 0 ≤ st := by unfold wi at hs; simp at hs; omega
        have HS := Lib.hid hs
        clear hs
        go_loopw [6, 7] (fun out ii wr => ∃ i : Nat, i ≤ steps.length ∧ ii = .int .i64 i ∧ (List.range i).all (linkAt g (st, steps)) = true ∧ wr.ownsRow w1.heap.size 3 1 out ((nodesL g (st, steps)).take (i + 1)).length (((nodesL g (st, steps)).take (i + 1)).flatMap cI) ∧ (∃ x, (nodesL g (st, steps))[i]? = some x ∧ 0 ≤ x) ∧ Below w1.heap.size w1 wr) (fun _ ii _ => steps.length - (intOf ii).toNat)
        case atStart => exact ⟨0, Nat.zero_le _, rfl, rfl, World.ownsRow_lit w1 #[.int .i64 st] 1 (Nat.le_refl _) (by decide) rfl, ⟨st, rfl, hst0⟩, (Below.refl _ _).alloc (Nat.le_refl _) _⟩
        case round =>
          obtain ⟨i, hi, rfl, hal, hrow, ⟨x, hxl, hx0⟩, hbel⟩ := hrel
          have HA := Lib.hid hal
          have hbw := below_trans hb2 hbel
          have hml : ((nodesL g (st, steps)).take (i + 1)).length = i + 1 := by rw [List.length_take, nodesL_len]; simp only; omega
          clear hal
          by_cases hlt : i < steps.length
          · have hxs : steps[i]? = some steps[i] := List.getElem?_eq_getElem hlt
            generalize steps[i] = s at hxs
            obtain ⟨sid, sinv⟩ := s
            obtain ⟨b, o, rfl, -, hb, hc⟩ := HX3.out i _ hxs
            have d0 := hc 0 _ rfl
            have d1 := hc 1 _ rfl
            simp only [Nat.add_zero] at d0
            have d0 := (hbw.cell (p := ⟨_, _, none⟩) hb).trans d0
            have d1 := (hbw.cell (p := ⟨_, _, none⟩) hb).trans d1
            obtain ⟨gb, cp, hv, hg1, hg2, hnc, hcm⟩ := row_shapeS hrow (by omega)
            obtain ⟨m, hm⟩ : ∃ m, m = i + 1 := ⟨_, rfl⟩
            rw [hml, ← hm] at hv
            subst hv
            have hrm := hrow
            rw [show ((nodesL g (st, steps)).take (i + 1)).length = m by rw [hml, hm]] at hrm
            have c0 := (World.ownsRow.cellAt hrm i (by omega)).trans (by have := flat_at cI_len (xs := (nodesL g (st, steps)).take (i + 1)) (i := i) (x := x) (by rw [List.getElem?_take]; simp [hxl]) 0 _ rfl; simpa using this)
            clear hrm
            have hei := fun W (hW : Below w.heap.size w W) => specEdgeIndex _ g sid W (hv0.keep hW)
            have hlk := linkAt_eq (k := (st, steps)) hxs hxl
            have HLK := Lib.hid hlk
            have HEI := Lib.hid hei
            have HXS := Lib.hid hxs
            have HROW := Lib.hid hrow
            have hbx := fun u => below_trans hbw (ext_below wr u)
            have x0 := (hbel.cell (p := ⟨_, _, none⟩) (by simp only; omega)).trans x0
            have x1 := (hbel.cell (p := ⟨_, _, none⟩) (by simp only; omega)).trans x1
            have y0 := (hbel.cell (p := ⟨_, _, none⟩) (by simp only; omega)).trans y0
            have y1 := (hbel.cell (p := ⟨_, _, none⟩) (by simp only; omega)).trans y1
            have hs1 := hbel.size
            have q2 : IntKind.i64.wrap ((m : Int) - 1) = (i : Int) := by rw [IntWalk.i64_in _ (by omega)]; omega
            have q3 : (i : Int) < (m : Int) := by omega
            have HM := Lib.hid hm
            have hbw' : b < wr.heap.size := by omega
            have k0 : w.heap.size < wr.heap.size := by omega
            have k1 : w.heap.size + 1 < wr.heap.size := by omega
            have hspec := edgeIdx_spec g sid
            have HSPEC := Lib.hid hspec
            clear hlk hei hxs hrow hml hm hxl hc q1 hnc hcm hspec
            rcases HSPEC.out with ⟨hk, hno⟩ | ⟨ix, e, hk, hex, he, hno⟩
            · have hsn := stepEd_none hno
              have hsf : stepFrom g (sid, sinv) = -1 := by rw [stepFrom]; simp [hsn]
              rw [hk] at HEI
              have hfin : walkOk g (st, steps) = false := by rw [HF.out]; exact range_all_false hlt (by rw [HLK.out, hsf]; simp; omega)
              have HFI := Lib.hid hfin
              clear hk hno hsn hsf hfin HSPEC
              go_wp2_with fail
              refine wp_region_ext_lit (by kernel_rfl) (by kernel_rfl) ?_
              repeat (go_big_quiet_step ((go_at_call 134; exact Calls.ext_of (HEI.out _ (hbx _)))))
              refine wpQuiet_nil ?_
              intro _ hw'
              obtain ⟨u2, hw''⟩ := hw'
              subst hw''
              go_wp2_with fail
              go_ret2
              exact ⟨_, by rw [HFI.out]; rfl, by rw [nodesOut_no HFI.out]; exact (Own.of_row (World.ownsRow_lit _ #[] 0 (Nat.le_refl _) (by decide) rfl) rfl rfl).mono (hbx _).size (Nat.le_refl _), (hbx _).alloc (hbx _).size _⟩
            · have hse := stepEd_some HG.out hex he hno
              have HSE := Lib.hid hse
              rw [hk] at HEI
              obtain ⟨b9, o9, rfl, -, hb9, hc9⟩ := HX2.out ix e hex
              have e1 := hc9 1 _ rfl
              have e2 := hc9 2 _ rfl
              have e1 := (hbw.cell (p := ⟨_, _, none⟩) hb9).trans e1
              have e2 := (hbw.cell (p := ⟨_, _, none⟩) hb9).trans e2
              have hb9' : b9 < wr.heap.size := by omega
              have hixl : ix < g.edges.length := (List.getElem?_eq_some_iff.1 hex).1
              clear hk hno he hex hse hc9 HSPEC
              cases sinv with
              | true =>
                have hsf : stepFrom g (sid, true) = e.2.2.1 := by rw [stepFrom]; simp [HSE.out]
                have hsto : stepTo g (sid, true) = e.2.1 := by rw [stepTo, stepFrom]; simp [HSE.out]
                have HSF := Lib.hid hsf
                have HSTO := Lib.hid hsto
                clear hsf hsto
                by_cases hyx : e.2.2.1 = x
                · have hq : (e.2.2.1 != x) = false := by simp [hyx]
                  have hto0 : 0 ≤ stepTo g (sid, true) := by
                    have h1 := @stepFrom_neg g (sid, true)
                    have h2 := @stepFrom_neg g (sid, !true)
                    have h3 : stepTo g (sid, true) = stepFrom g (sid, !true) := rfl
                    have h4 := HSF.out
                    rw [h3]
                    by_cases h5 : 0 ≤ stepFrom g (sid, !true)
                    · exact h5
                    · have h6 := h2.1 (by omega)
                      have h7 := h1.2 h6
                      omega
                  have HYX := Lib.hid hyx
                  have HTO0 := Lib.hid hto0
                  clear hyx hto0
                  go_wp2_with fail
                  refine wp_region_ext_lit (by kernel_rfl) (by kernel_rfl) ?_
                  repeat (go_big_quiet_step ((go_at_call 134; exact Calls.ext_of (HEI.out _ (hbx _)))))
                  refine wpQuiet_nil ?_
                  intro _ hw'
                  obtain ⟨u2, hw''⟩ := hw'
                  subst hw''
                  have hw3 := ext_below wr u2
                  have hrow3 := ownsRow_below HROW.out hw3 (Nat.le_refl _)
                  have hs3 := Nat.le_trans hs1 hw3.size
                  have hbel3 := below_trans hbel hw3
                  have htl : ((nodesL g (st, steps)).take (i + 1)).length ≤ 61 := by rw [List.length_take]; omega
                  clear hw3
                  go_wp2_with (at_builtin; (refine wpList_append1 cI elInt rfl _ _ rfl w1.heap.size (.slice (some ⟨gb, 0, none⟩) m cp) ((nodesL g (st, steps)).take (i + 1)) (e.2.1) _ 1 _ (by rfl) hrow3 (by rfl) rfl rfl rfl (cI_one _) (by omega) (by omega) hs3 ?_); rw [← HSTO.out, ← nodesL_succ HXS.out]; intro v' w4 hrow' hb4 _ _)
                  go_roundw
                  case rel => exact ⟨i + 1, by omega, by go_num, range_all_succ HA.out (by rw [HLK.out, HSF.out, HYX.out]; simp), hrow', ⟨_, nodesL_next HXS.out, HTO0.out⟩, hbel3.trans hb4⟩
                  case measure => simp [intOf]; omega
                · have hq : (e.2.2.1 != x) = true := by simp [hyx]
                  have hfin : walkOk g (st, steps) = false := by rw [HF.out]; exact range_all_false hlt (by rw [HLK.out, HSF.out]; simpa using hyx)
                  have HFI := Lib.hid hfin
                  clear hyx hfin
                  go_wp2_with fail
                  refine wp_region_ext_lit (by kernel_rfl) (by kernel_rfl) ?_
                  repeat (go_big_quiet_step ((go_at_call 134; exact Calls.ext_of (HEI.out _ (hbx _)))))
                  refine wpQuiet_nil ?_
                  intro _ hw'
                  obtain ⟨u2, hw''⟩ := hw'
                  subst hw''
                  go_wp2_with fail
                  go_ret2
                  exact ⟨_, by rw [HFI.out]; rfl, by rw [nodesOut_no HFI.out]; exact (Own.of_row (World.ownsRow_lit _ #[] 0 (Nat.le_refl _) (by decide) rfl) rfl rfl).mono (hbx _).size (Nat.le_refl _), (hbx _).alloc (hbx _).size _⟩
              | false =>
                have hsf : stepFrom g (sid, false) = e.2.1 := by rw [stepFrom]; simp [HSE.out]
                have hsto : stepTo g (sid, false) = e.2.2.1 := by rw [stepTo, stepFrom]; simp [HSE.out]
                have HSF := Lib.hid hsf
                have HSTO := Lib.hid hsto
                clear hsf hsto
                by_cases hyx : e.2.1 = x
                · have hq : (e.2.1 != x) = false := by simp [hyx]
                  have hto0 : 0 ≤ stepTo g (sid, false) := by
                    have h1 := @stepFrom_neg g (sid, false)
                    have h2 := @stepFrom_neg g (sid, !false)
                    have h3 : stepTo g (sid, false) = stepFrom g (sid, !false) := rfl
                    have h4 := HSF.out
                    rw [h3]
                    by_cases h5 : 0 ≤ stepFrom g (sid, !false)
                    · exact h5
                    · have h6 := h2.1 (by omega)
                      have h7 := h1.2 h6
                      omega
                  have HYX := Lib.hid hyx
                  have HTO0 := Lib.hid hto0
                  clear hyx hto0
                  go_wp2_with fail
                  refine wp_region_ext_lit (by kernel_rfl) (by kernel_rfl) ?_
                  repeat (go_big_quiet_step ((go_at_call 134; exact Calls.ext_of (HEI.out _ (hbx _)))))
                  refine wpQuiet_nil ?_
                  intro _ hw'
                  obtain ⟨u2, hw''⟩ := hw'
                  subst hw''
                  have hw3 := ext_below wr u2
                  have hrow3 := ownsRow_below HROW.out hw3 (Nat.le_refl _)
                  have hs3 := Nat.le_trans hs1 hw3.size
                  have hbel3 := below_trans hbel hw3
                  have htl : ((nodesL g (st, steps)).take (i + 1)).length ≤ 61 := by rw [List.length_take]; omega
                  clear hw3
                  go_wp2_with (at_builtin; (refine wpList_append1 cI elInt rfl _ _ rfl w1.heap.size (.slice (some ⟨gb, 0, none⟩) m cp) ((nodesL g (st, steps)).take (i + 1)) (e.2.2.1) _ 1 _ (by rfl) hrow3 (by rfl) rfl rfl rfl (cI_one _) (by omega) (by omega) hs3 ?_); rw [← HSTO.out, ← nodesL_succ HXS.out]; intro v' w4 hrow' hb4 _ _)
                  go_roundw
                  case rel => exact ⟨i + 1, by omega, by go_num, range_all_succ HA.out (by rw [HLK.out, HSF.out, HYX.out]; simp), hrow', ⟨_, nodesL_next HXS.out, HTO0.out⟩, hbel3.trans hb4⟩
                  case measure => simp [intOf]; omega
                · have hq : (e.2.1 != x) = true := by simp [hyx]
                  have hfin : walkOk g (st, steps) = false := by rw [HF.out]; exact range_all_false hlt (by rw [HLK.out, HSF.out]; simpa using hyx)
                  have HFI := Lib.hid hfin
                  clear hyx hfin
                  go_wp2_with fail
                  refine wp_region_ext_lit (by kernel_rfl) (by kernel_rfl) ?_
                  repeat (go_big_quiet_step ((go_at_call 134; exact Calls.ext_of (HEI.out _ (hbx _)))))
                  refine wpQuiet_nil ?_
                  intro _ hw'
                  obtain ⟨u2, hw''⟩ := hw'
                  subst hw''
                  go_wp2_with fail
                  go_ret2
                  exact ⟨_, by rw [HFI.out]; rfl, by rw [nodesOut_no HFI.out]; exact (Own.of_row (World.ownsRow_lit _ #[] 0 (Nat.le_refl _) (by decide) rfl) rfl rfl).mono (hbx _).size (Nat.le_refl _), (hbx _).alloc (hbx _).size _⟩
          · obtain rfl : i = steps.length := by omega
            have y1 := (hbel.cell (p := ⟨_, _, none⟩) (by simp only; omega)).trans y1
            have hlw := hbel.size
            have k1 : w.heap.size + 1 < wr.heap.size := by omega
            have hfin : walkOk g (st, steps) = true := by rw [HF.out, HA.out]
            have HFF := Lib.hid hfin
            have htk : (nodesL g (st, steps)).take (steps.length + 1) = nodesL g (st, steps) := List.take_of_length_le (by rw [nodesL_len]; simp)
            rw [htk] at hrow
            have HROW := Lib.hid hrow
            clear hfin HF HA htk hml hrow
            go_wp2_with fail
            go_ret2
            exact ⟨_, by rw [HFF.out]; rfl, by rw [nodesOut_yes HFF.out]; exact (Own.of_row HROW.out rfl rfl).mono hb2.size (Nat.le_refl _), hbw⟩
      · have hlen' : decide ((steps.length : Int) > 60) = true := by simp; omega
        have hfin : walkOk g (st, steps) = false := by rw [HW.out]; simp [hlen]
        have HF := Lib.hid hfin
        clear HW hfin hg
        go_wp2_with (go_at_call 106; refine (HWI.out _ _ _ _).mono ?_; rintro e w1 ⟨rfl, rfl⟩)
        go_ret2
        exact ⟨_, by rw [HF.out]; rfl, by rw [nodesOut_no HF.out]; exact (Own.of_row (World.ownsRow_lit _ #[] 0 (Nat.le_refl _) (by decide) rfl) rfl rfl).mono hb2.size (Nat.le_refl _), hb2.alloc hb2.size _⟩
end Go.Proofs.Ytbkaoghlkdbofaa

/- The reference's walks: when one is a walk of a graph, and when it is allowed. -/
namespace Go.Proofs.Ytbkaoghlkdbofaa
set_option linter.unusedVariables false
set_option linter.unusedSimpArgs false
open Go.ChangeShapes Go.WideShapes Go.ChangeAt Go.RowKit
attribute [local go_sem] ext_cell ext_frozen ext_lt ext_lt1 ext_lt2 ext_lt3 ltn2 ltn3 ltn13 lts1 lts2 lts3


end Go.Proofs.Ytbkaoghlkdbofaa

/- The reference's product: l14Good, l14Closure, l14Letter, l14To, l4From. -/
namespace Go.Proofs.Ytbkaoghlkdbofaa
set_option linter.unusedVariables false
set_option linter.unusedSimpArgs false
open Go.ChangeShapes Go.WideShapes Go.ChangeAt Go.RowKit
attribute [local go_sem] ext_cell ext_frozen ext_lt ext_lt1 ext_lt2 ext_lt3 ltn2 ltn3 ltn13 lts1 lts2 lts3

def goodB (g : Gr) (a : Au) (x s : Int) : Bool := grOk g && (auOk a && (wi x 0 ((g.vals.length : Int) - 1) && wi s 0 ((a.accept.length : Int) - 1)))
set_option maxHeartbeats 2000000 in
theorem l14Good_any (vg va : Value) (g : Gr) (a : Au) (x s : Int) (w : World) (hgv : GrV 0 w.heap.size w vg g) (hav : AuV 0 w.heap.size w va a) :
    Calls Try.prog 105 #[vg, va, .int .i64 x, .int .i64 s] w fun e w' => e = .returned (.bool (goodB g a x s)) ∧ Below w.heap.size w w' := by
  have hgv0 := hgv
  have hav0 := hav
  obtain ⟨A1, c1, A2, c2, rfl, hl1, hm1, hl2, hm2, -, -⟩ := hgv.form
  obtain ⟨ac, nx, rfl, hac, hnx⟩ := hav
  obtain ⟨A3, c3, rfl, hl3, hm3, -⟩ := SlE.form hac
  obtain ⟨A4, n4, c4, rfl⟩ := hnx.shape
  have hb0 : Below w.heap.size w ((w.alloc (.cells #[.slice A1 g.vals.length c1, .slice A2 g.edges.length c2] 31)).alloc (.cells #[.int .i64 a.start, .slice A3 a.accept.length c3, .slice A4 n4 c4] 58)) := ((Below.refl _ _).alloc (Nat.le_refl _) _).alloc (by simp) _
  have HGV := Lib.hid hgv0
  have HAV := Lib.hid hav0
  have HWI := Lib.hid l1In_any
  have HG := Lib.hid (show goodB g a x s = (grOk g && (auOk a && (wi x 0 ((g.vals.length : Int) - 1) && wi s 0 ((a.accept.length : Int) - 1)))) from rfl)
  clear hac hnx hgv0 hav0 hgv
  cases hgo : grOk g with
  | false =>
    have hfin : goodB g a x s = false := by rw [HG.out, hgo]; rfl
    have HF := Lib.hid hfin
    have hc := specValidGraph _ g _ (HGV.out.keep hb0)
    rw [hgo] at hc
    have HC := Lib.hid hc
    clear hgo hfin hc
    go_enter Try.func105, Try.ntmps105
    go_wp2_with fail
    refine HC.out.mono ?_
    rintro e w1 ⟨rfl, hb1⟩
    go_wp2_with fail
    go_ret
    exact ⟨by rw [HF.out]; rfl, below_trans hb0 hb1⟩
  | true =>
    have hc := specValidGraph _ g _ (HGV.out.keep hb0)
    rw [hgo] at hc
    have HC := Lib.hid hc
    have HGO := Lib.hid hgo
    clear hgo hc
    cases hao : auOk a with
    | false =>
      have hfin : goodB g a x s = false := by rw [HG.out, HGO.out, hao]; rfl
      have HF := Lib.hid hfin
      have HAO := Lib.hid hao
      clear hao hfin
      go_enter Try.func105, Try.ntmps105
      go_wp2_with fail
      refine HC.out.mono ?_
      rintro e w1 ⟨rfl, hb1⟩
      obtain ⟨u1, rfl⟩ := ext_of hb1
      go_wp2_with fail
      refine (specValidAutomaton _ a _ (HAV.out.keep (below_trans hb0 hb1))).mono ?_
      rw [HAO.out]
      rintro e w2 ⟨rfl, hb2⟩
      go_wp2_with fail
      go_ret
      exact ⟨by rw [HF.out]; rfl, below_trans (below_trans hb0 hb1) hb2⟩
    | true =>
      have HAO := Lib.hid hao
      clear hao
      go_enter Try.func105, Try.ntmps105
      go_wp2_with fail
      refine HC.out.mono ?_
      rintro e w1 ⟨rfl, hb1⟩
      obtain ⟨u1, rfl⟩ := ext_of hb1
      have hb3 := below_trans hb0 hb1
      clear hb1
      go_wp2_with fail
      refine (specValidAutomaton _ a _ (HAV.out.keep hb3)).mono ?_
      rw [HAO.out]
      rintro e w2 ⟨rfl, hb2⟩
      obtain ⟨u2, rfl⟩ := ext_of (below_trans (ext_below _ u1) hb2)
      have hb4 := below_trans hb3 hb2
      clear hb2 hb3
      have hfin : goodB g a x s = (wi x 0 ((g.vals.length : Int) - 1) && wi s 0 ((a.accept.length : Int) - 1)) := by rw [HG.out, HGO.out, HAO.out]; rfl
      have HF := Lib.hid hfin
      clear hfin
      cases h1 : wi x 0 ((g.vals.length : Int) - 1) with
      | false =>
        have H1 := Lib.hid h1
        go_wp2_with (go_at_call 106; refine (HWI.out _ _ _ _).mono ?_; rintro e w1 ⟨rfl, rfl⟩)
        go_ret
        exact ⟨by rw [HF.out, H1.out]; rfl, hb4⟩
      | true =>
        have H1 := Lib.hid h1
        go_wp2_with (go_at_call 106; refine (HWI.out _ _ _ _).mono ?_; rintro e w1 ⟨rfl, rfl⟩)
        go_ret
        exact ⟨by rw [HF.out, H1.out]; rfl, hb4⟩
theorem l14Letter_any (e : Ed) (b : Bool) (w : World) (h0 : 0 ≤ e.2.2.2) (h2 : e.2.2.2 ≤ 2) :
    Calls Try.prog 196 #[.agg #[.int .i64 e.1, .int .i64 e.2.1, .int .i64 e.2.2.1, .int .i64 e.2.2.2], .bool b] w fun en w' => en = .returned (.int .i64 (arcLetter b e)) ∧ Below w.heap.size w w' := by
  obtain ⟨a, f, t, l⟩ := e
  simp only at h0 h2 ⊢
  cases b
  all_goals
    go_enter Try.func196, Try.ntmps196
    go_wp2_with fail
    go_ret
    exact ⟨rfl, (Below.refl _ _).alloc (Nat.le_refl _) _⟩
theorem l14To_any (e : Ed) (b : Bool) (w : World) :
    Calls Try.prog 197 #[.agg #[.int .i64 e.1, .int .i64 e.2.1, .int .i64 e.2.2.1, .int .i64 e.2.2.2], .bool b] w fun en w' => en = .returned (.int .i64 (arcTo b e)) ∧ Below w.heap.size w w' := by
  obtain ⟨a, f, t, l⟩ := e
  cases b
  all_goals
    go_enter Try.func197, Try.ntmps197
    go_wp2_with fail
    go_ret
    exact ⟨rfl, (Below.refl _ _).alloc (Nat.le_refl _) _⟩
set_option maxHeartbeats 1000000 in
theorem l14Closure_any (v : Value) (a : Au) (s x : Nat) (w : World) (hv : AuV 0 w.heap.size w v a) (hok : auOk a = true) (hs : s < a.accept.length) (hx : x ≤ 2) :
    Calls Try.prog 195 #[v, .int .i64 (s : Int), .int .i64 (x : Int)] w fun e w' => e = .returned (.int .i64 (cls a x s : Int)) ∧ Below w.heap.size w w' := by
  obtain ⟨A1, c1, A2, c2, rfl, hl1, hm1, hl2, hm2, hC⟩ := hv.form hok
  clear hv
  have hn12 : a.accept.length ≤ 12 := (auOk_iff.1 hok).1.2
  have hb0 : Below w.heap.size w (w.alloc (.cells #[.int .i64 a.start, .slice A1 a.accept.length c1, .slice A2 a.accept.length c2] 58)) := (Below.refl _ _).alloc (Nat.le_refl _) _
  have HOK := Lib.hid hok
  have HC := Lib.hid hC
  obtain ⟨R, hR⟩ : ∃ R, R = cls a x s := ⟨_, rfl⟩
  rw [← hR]
  have HR := Lib.hid hR
  clear hR hok hC
  go_enter Try.func195, Try.ntmps195
  go_wp2_with fail
  go_loop [1, 7] (fun ss st => ∃ (f m : Nat) (s : Int), st = .int .i64 (m : Int) ∧ ss = .int .i64 s ∧ clsF a (6 + x) f s m = R ∧ f + (mem 12 m).length = 13 ∧ m < 2 ^ a.accept.length ∧ s < (a.accept.length : Int)) (fun _ st => 13 - (mem 12 (intOf st).toNat).length)
  case atStart => exact ⟨13, 0, s, rfl, rfl, HR.out.symm, by simp [mem], Nat.two_pow_pos _, by omega⟩
  case round =>
    obtain ⟨f, m, s, rfl, rfl, hcl, hf, hm, hs⟩ := hrel
    have hm2 := lt12 HOK.out hm
    have hml := mem_len 12 m
    have HCL := Lib.hid hcl
    have HFC := Lib.hid hf
    clear hcl hf
    by_cases h0 : 0 ≤ s
    · obtain ⟨s, rfl⟩ := Int.eq_ofNat_of_zero_le h0
      have hs12 : s < 12 := by omega
      have hsn : (s : Int) < (a.accept.length : Int) := hs
      obtain ⟨b2, o2, b3, o3, c3, hA2, hb2, d2, hl3, hm3, hb3, hc3⟩ := HC.out.row s (by omega)
      subst hA2
      have d3 := hc3 (6 + x) (by omega)
      have hx9 : (6 : Int) + (x : Int) < 9 := by omega
      have e1 := shl_bit (s := s) (by omega)
      have e2 := or_ins (m := m) (s := s) (by omega) (by omega)
      clear hc3
      cases hb : m.testBit s with
      | true =>
        have e3 := bit_on (by omega) (by omega) hb
        have hfin : m = R := by rw [← HCL.out]; exact (clsF_stop (.inr (by simpa using hb))).symm
        have HF := Lib.hid hfin
        clear hfin hb h0
        go_wp2_with fail
        go_ret
        exact ⟨by rw [HF.out]; rfl, hb0⟩
      | false =>
        have e3 := bit_off (by omega) (by omega) hb
        have HB := Lib.hid hb
        have hmv := mv_lt HOK.out s (6 + x)
        clear hb h0
        go_wp2_with fail
        go_round
        case rel =>
          have h1 := cnt_or (n := 12) (m := m) hs12 HB.out
          have h2 := HFC.out
          obtain ⟨f, rfl⟩ : ∃ f', f = f' + 1 := ⟨f - 1, by omega⟩
          exact ⟨f, ins m s, _, rfl, rfl, by rw [← HCL.out]; exact (clsF_go HB.out).symm, by omega, ins_lt hm (by omega), by omega⟩
        case measure =>
          have h1 := cnt_or (n := 12) (m := m) hs12 HB.out
          simp [intOf]; omega
    · have hfin : m = R := by rw [← HCL.out]; exact (clsF_stop (.inl (by omega))).symm
      have h0' : decide (s ≥ 0) = false := by simp; omega
      have HF := Lib.hid hfin
      clear hfin
      go_wp2_with fail
      go_ret
      exact ⟨by rw [HF.out]; rfl, hb0⟩
end Go.Proofs.Ytbkaoghlkdbofaa

/- The reference's l4From: the steps from a node. -/
namespace Go.Proofs.Ytbkaoghlkdbofaa
set_option linter.unusedVariables false
set_option linter.unusedSimpArgs false
open Go.ChangeShapes Go.WideShapes Go.ChangeAt Go.RowKit
attribute [local go_sem] ext_cell ext_frozen ext_lt ext_lt1 ext_lt2 ext_lt3 ltn2 ltn3 ltn13 lts1 lts2 lts3

def fromTo (g : Gr) (x : Int) (i : Nat) : List St := ((g.edges.take i).flatMap (arcE x)).map (·.1)
theorem fromTo_len (g : Gr) (x : Int) (i : Nat) : (fromTo g x i).length ≤ i * 2 := by
  unfold fromTo
  rw [List.length_map]
  have h1 := flat_len (arcE_len x) (g.edges.take i)
  rw [List.length_take] at h1
  have : min i g.edges.length * 2 ≤ i * 2 := Nat.mul_le_mul_right 2 (Nat.min_le_left _ _)
  omega
theorem fromTo_succ {g : Gr} {x : Int} {i : Nat} {e : Ed} (he : g.edges[i]? = some e) : fromTo g x (i + 1) = (fromTo g x i ++ if e.2.1 = x then [(e.1, false)] else []) ++ if e.2.2.1 = x then [(e.1, true)] else [] := by
  unfold fromTo
  rw [flat_take he, List.map_append, List.append_assoc]
  congr 1
  unfold arcE
  by_cases h1 : e.2.1 = x <;> by_cases h2 : e.2.2.1 = x <;> simp [h1, h2]
theorem elStF : ElemOk Try.prog 42 101 (.agg #[.int .i64 0, .bool false]) 2 16 := ⟨Try.underlying42, by kernel_rfl, rfl, by omega⟩
set_option maxHeartbeats 4000000 in
theorem l4From_any (vg : Value) (g : Gr) (x : Int) (w : World) (hgv : GrV 0 w.heap.size w vg g) (he12 : g.edges.length ≤ 12) :
    Calls Try.prog 175 #[vg, .int .i64 x] w fun e w' => ∃ v', e = .returned v' ∧ Own w.heap.size w'.heap.size w' 101 cSt 2 v' ((arcsOf g x).map (·.1)) ∧ Below w.heap.size w w' := by
  obtain ⟨A1, c1, A2, c2, rfl, hl1, hm1, hl2, hm2, -, hC2⟩ := hgv.form
  have HC2 := Lib.hid hC2
  have hb0 : Below w.heap.size w (w.alloc (.cells #[.slice A1 g.vals.length c1, .slice A2 g.edges.length c2] 31)) := (Below.refl _ _).alloc (Nat.le_refl _) _
  obtain ⟨R, hR⟩ : ∃ R, R = (arcsOf g x).map (·.1) := ⟨_, rfl⟩
  rw [← hR]
  have HR := Lib.hid hR
  clear hgv hC2 hR
  go_enter Try.func175, Try.ntmps175
  go_wp2_with fail
  obtain ⟨W0, hW0⟩ : ∃ W0, W0 = (w.alloc (.cells #[.slice A1 g.vals.length c1, .slice A2 g.edges.length c2] 31)) := ⟨_, rfl⟩
  rw [← hW0] at hb0 ⊢
  have x0 : W0.cell? ⟨w.heap.size, 1, none⟩ = some (.slice A2 g.edges.length c2) := by rw [hW0]; simp
  have hs0 : w.heap.size + 1 = W0.heap.size := by rw [hW0]; simp
  rw [hs0]
  have l0 : w.heap.size < W0.heap.size := by omega
  clear hW0 hs0
  go_loopw [5, 6] (fun out ii wr => ∃ i : Nat, i ≤ g.edges.length ∧ ii = .int .i64 (i : Int) ∧ wr.ownsRow W0.heap.size 101 2 out (fromTo g x i).length ((fromTo g x i).flatMap cSt) ∧ Below W0.heap.size W0 wr) (fun _ ii _ => g.edges.length - (intOf ii).toNat)
  case atStart => exact ⟨0, Nat.zero_le _, rfl, World.ownsRow_lit W0 #[] 0 (Nat.le_refl _) (by decide) rfl, (Below.refl _ _).alloc (Nat.le_refl _) _⟩
  case round =>
    obtain ⟨i, hi, rfl, hrow, hbel⟩ := hrel
    have HROW := Lib.hid hrow
    have hlen := fromTo_len g x i
    have x0 := kcell hbel x0
    have l1 := Nat.lt_of_lt_of_le l0 hbel.size
    have hsz := hbel.size
    clear hrow
    by_cases hlt : i < g.edges.length
    · have hei : g.edges[i]? = some g.edges[i] := List.getElem?_eq_getElem hlt
      generalize g.edges[i] = e at hei
      obtain ⟨b, o, rfl, hb, q0, q1, q2, -⟩ := HC2.out.ed hei
      have hbw := below_trans hb0 hbel
      have q0 := kcell hbw q0
      have q1 := kcell hbw q1
      have q2 := kcell hbw q2
      have hsu := fromTo_succ (x := x) hei
      have HSU := Lib.hid hsu
      obtain ⟨eid, ef, et, el⟩ := e
      simp only at q0 q1 q2 HSU
      clear hei hsu hbw
      by_cases h1 : ef = x <;> by_cases h2 : et = x
      · have k1 : (ef == x) = true := by simpa using h1
        have k2 : (et == x) = true := by simpa using h2
        rw [if_pos h1, if_pos h2] at HSU
        clear h1 h2
        have tok1 : True := trivial
        go_wp2_with (first | (at_builtin; have _t := tok1; (refine wpList_append1 cSt elStF rfl _ _ rfl W0.heap.size _ (fromTo g x i) (eid, false) _ 1 _ (by rfl) HROW.out (by rfl) rfl rfl rfl (cSt_one _) (by omega) (by omega) hsz ?_); intro v' w4 hrow' hb4 _ _; clear tok1; have HR4 := Lib.hid hrow'; clear hrow'; have q0 := (hb4.cell (p := ⟨b, o + i * 4, none⟩) (by simp only; omega)).trans q0; have q2 := (hb4.cell (p := ⟨b, o + i * 4 + 2, none⟩) (by simp only; omega)).trans q2; have x0 := (hb4.cell (p := ⟨w.heap.size, 1, none⟩) (by simp only; omega)).trans x0; have hsz4 := hb4.size) | (at_builtin; (refine wpList_append1 cSt elStF rfl _ _ rfl W0.heap.size _ (fromTo g x i ++ [(eid, false)]) (eid, true) _ 1 _ (by rfl) HR4.out (by rfl) rfl rfl rfl (cSt_one _) (by simp only [List.length_append, List.length_singleton]; omega) (by omega) (by omega) ?_); intro v' w5 hrow' hb5 _ _))
        go_roundw
        case rel => exact ⟨i + 1, by omega, by go_num, by rw [HSU.out]; exact hrow', (hbel.trans hb4).trans hb5⟩
        case measure => simp [intOf]; omega
      · have k1 : (ef == x) = true := by simpa using h1
        have k2 : (et == x) = false := by simpa using h2
        rw [if_pos h1, if_neg h2, List.append_nil] at HSU
        clear h1 h2
        go_wp2_with (at_builtin; (refine wpList_append1 cSt elStF rfl _ _ rfl W0.heap.size _ (fromTo g x i) (eid, false) _ 1 _ (by rfl) HROW.out (by rfl) rfl rfl rfl (cSt_one _) (by omega) (by omega) hsz ?_); intro v' w4 hrow' hb4 _ _; have HR4 := Lib.hid hrow'; clear hrow'; have q2 := (hb4.cell (p := ⟨b, o + i * 4 + 2, none⟩) (by simp only; omega)).trans q2; have x0 := (hb4.cell (p := ⟨w.heap.size, 1, none⟩) (by simp only; omega)).trans x0)
        go_roundw
        case rel => exact ⟨i + 1, by omega, by go_num, by rw [HSU.out]; exact HR4.out, hbel.trans hb4⟩
        case measure => simp [intOf]; omega
      · have k1 : (ef == x) = false := by simpa using h1
        have k2 : (et == x) = true := by simpa using h2
        rw [if_neg h1, if_pos h2, List.append_nil] at HSU
        clear h1 h2
        go_wp2_with (at_builtin; (refine wpList_append1 cSt elStF rfl _ _ rfl W0.heap.size _ (fromTo g x i) (eid, true) _ 1 _ (by rfl) HROW.out (by rfl) rfl rfl rfl (cSt_one _) (by omega) (by omega) hsz ?_); intro v' w4 hrow' hb4 _ _)
        go_roundw
        case rel => exact ⟨i + 1, by omega, by go_num, by rw [HSU.out]; exact hrow', hbel.trans hb4⟩
        case measure => simp [intOf]; omega
      · have k1 : (ef == x) = false := by simpa using h1
        have k2 : (et == x) = false := by simpa using h2
        rw [if_neg h1, if_neg h2, List.append_nil, List.append_nil] at HSU
        clear h1 h2
        go_wp2_with fail
        go_roundw
        case rel => exact ⟨i + 1, by omega, by go_num, by rw [HSU.out]; exact HROW.out, hbel⟩
        case measure => simp [intOf]; omega
    · obtain rfl : i = g.edges.length := by omega
      have hall : fromTo g x g.edges.length = R := by rw [HR.out, fromTo, List.take_length]; rfl
      have hown := Own.of_row (xs := fromTo g x g.edges.length) (ownsRow_mono HROW.out hb0.size) rfl rfl
      rw [hall] at hown
      have HO := Lib.hid hown
      clear hown hall
      go_wp2_with fail
      go_ret
      exact ⟨_, rfl, HO.out, below_trans hb0 hbel⟩
end Go.Proofs.Ytbkaoghlkdbofaa

