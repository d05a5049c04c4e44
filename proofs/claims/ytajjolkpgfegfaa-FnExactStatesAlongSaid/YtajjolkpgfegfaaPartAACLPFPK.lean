/- Parts of the proof, joined into one text: HelpWalk, MarkW. -/
import Derived.Test.YtajjolkpgfegfaaPartMKPEBINK
/- Walks in the laws' helpers: measured, copied, compared, marked, looked at. -/
namespace Go.Proofs.Ytajjolkpgfegfaa
set_option linter.unusedVariables false
set_option linter.unusedSimpArgs false
open Go.ChangeShapes Go.WideShapes Go.ChangeAt Go.RowKit
attribute [local go_sem] ext_cell ext_frozen ext_lt ext_lt1 ext_lt2 ext_lt3 ltn2 ltn3 ltn13 lts1 lts2 lts3

def WkO (lo hi : Nat) (w : World) (v : Value) (k : Wk) : Prop :=
  ∃ ss, v = .agg #[.int .i64 k.1, ss] ∧ Own lo hi w 110 cSt 2 ss k.2
theorem WkO.view {lo hi : Nat} {w : World} {v : Value} {k : Wk} (h : WkO lo hi w v k) : WkV lo hi w v k := by
  obtain ⟨ss, rfl, h1⟩ := h
  exact ⟨ss, rfl, h1.sl cSt_len⟩
theorem WkO.below {lo hi : Nat} {w w' : World} {v : Value} {k : Wk} (h : WkO lo hi w v k) {B : Nat} (hb : Below B w w') (hB : hi ≤ B) : WkO lo hi w' v k := by
  obtain ⟨ss, rfl, h1⟩ := h
  exact ⟨ss, rfl, h1.below hb hB⟩
theorem WkO.only {lo hi : Nat} {w w' : World} {v : Value} {k : Wk} (h : WkO lo hi w v k) {l r : Nat} (hb : Only l r w w') (ho : hi ≤ l ∨ r ≤ lo) : WkO lo hi w' v k := by
  obtain ⟨ss, rfl, h1⟩ := h
  exact ⟨ss, rfl, h1.only hb ho⟩
theorem WkO.mono {lo hi : Nat} {w : World} {v : Value} {k : Wk} (h : WkO lo hi w v k) {lo' hi' : Nat} (h1 : lo' ≤ lo) (h2 : hi ≤ hi') : WkO lo' hi' w v k := by
  obtain ⟨ss, rfl, g1⟩ := h
  exact ⟨ss, rfl, g1.mono h1 h2⟩

theorem szWalk_any (v : Value) (k : Wk) (left : Int) (w : World) (hv : WkV 0 w.heap.size w v k) (h0 : 0 ≤ left) (h1 : left ≤ 1048576) :
    Calls Try.prog 43 #[v, .int .i64 left] w fun e w' => e = .returned (.int .i64 (if left < k.2.length then -1 else left - k.2.length)) ∧ Below w.heap.size w w' := by
  obtain ⟨ss, rfl, ⟨A1, c1, rfl, hl1, hm1, -⟩⟩ := hv
  have hc := szStepS_any A1 k.2.length c1 left
  by_cases g1 : left < k.2.length
  · rw [if_pos g1] at hc ⊢
    have HC := Lib.hid hc
    clear hc
    go_enter Try.func43, Try.ntmps43
    go_wp2_with fail
    refine (HC.out _ (by omega) h0 h1).mono ?_; rintro e w1 ⟨rfl, rfl⟩
    go_wp2
    go_ret
    exact ⟨rfl, (Below.refl _ _).alloc (Nat.le_refl _) _⟩
  · rw [if_neg g1] at hc ⊢
    have HC := Lib.hid hc
    clear hc
    go_enter Try.func43, Try.ntmps43
    go_wp2_with fail
    refine (HC.out _ (by omega) h0 h1).mono ?_; rintro e w1 ⟨rfl, rfl⟩
    go_wp2
    go_ret
    exact ⟨rfl, (Below.refl _ _).alloc (Nat.le_refl _) _⟩

def szWk (k : Wk) (left : Int) : Int := if left < k.2.length then -1 else left - k.2.length
theorem szWk_le (k : Wk) (left : Int) (h : ¬ szWk k left < 0) : k.2.length ≤ left.toNat ∧ 0 ≤ szWk k left ∧ szWk k left ≤ left := by
  unfold szWk at h ⊢
  split at h
  · omega
  · rw [if_neg (by omega)]; omega
theorem szWalkD_any (v : Value) (k : Wk) (left : Int) (w : World) (hv : WkV 0 w.heap.size w v k) (h0 : 0 ≤ left) (h1 : left ≤ 1048576) :
    Calls Try.prog 43 #[v, .int .i64 left] w fun e w' => e = .returned (.int .i64 (szWk k left)) ∧ Below w.heap.size w w' := szWalk_any v k left w hv h0 h1

set_option maxHeartbeats 1000000 in
theorem toWalk_any (v : Value) (k : Wk) (w : World) (hv : WkV 0 w.heap.size w v k) (h1 : k.2.length ≤ 1048576) :
    Calls Try.prog 45 #[v] w fun e w' => ∃ v', e = .returned v' ∧ WkO w.heap.size w'.heap.size w' v' k ∧ Below w.heap.size w w' := by
  obtain ⟨ss, rfl, hss⟩ := hv
  obtain ⟨st, steps⟩ := k
  go_enter Try.func45, Try.ntmps45
  go_wp2_with fail
  refine (toStepS_any ss steps _ ?_ h1).mono ?_
  · exact SlE.keep hss (by repeat (first | exact Below.refl _ _ | refine Below.setCell ?_ (by simp <;> omega) _ | refine Below.alloc ?_ (by simp <;> omega) _))
  rintro e w1 ⟨v1, rfl, ho1', hb1⟩
  have b1 := (((Blk.new (w.alloc _) _ _ (w.heap.size + 1) (by simp)).alloc _)).keep hb1
  have b2 := (Blk.new ((w.alloc _).alloc _) _ _ (w.heap.size + 1 + 1) (by simp)).keep hb1
  have o1 : Only w.heap.size (w.heap.size + 3) w w1 := (((Only.refl _ _ _).alloc _).alloc _ |>.alloc _).trans (Only.of_below hb1 _ _)
  have ho1 : Own (w.heap.size + 3) w1.heap.size w1 _ cSt 2 v1 steps := ho1'.mono (by simp) (Nat.le_refl _)
  clear ho1'
  obtain ⟨A1, n1, c1, rfl⟩ := ho1.shape
  have s1 : w.heap.size + 3 ≤ w1.heap.size := by have := hb1.size; simpa using this
  clear hb1
  have x0 : w1.cell? ⟨w.heap.size + 1, 0, none⟩ = some _ := b1.cell 0
  have x1 : w1.cell? ⟨w.heap.size + 1, 1, none⟩ = some _ := b1.cell 1
  have x2 : w1.cell? ⟨w.heap.size + 1 + 1, 0, none⟩ = some _ := b2.cell 0
  have x3 : w1.cell? ⟨w.heap.size + 1 + 1, 1, none⟩ = some _ := b2.cell 1
  have y0 := b1.frozen 0
  have y1 := b1.frozen 1
  have y2 := b2.frozen 0
  have y3 := b2.frozen 1
  go_wp2_with fail
  have oz : Only w.heap.size (w.heap.size + 3) w1 _ := (((Only.refl _ _ w1).setCell (p := ⟨w.heap.size + 1 + 1, 1, none⟩) (.inl (by simp <;> omega)) (.slice A1 n1 c1)).setCell (p := ⟨w.heap.size + 1, 0, none⟩) (.inl (by simp <;> omega)) (.int .i64 st)).setCell (p := ⟨w.heap.size + 1, 1, none⟩) (.inl (by simp <;> omega)) (.slice A1 n1 c1)
  refine bodyPost_ret (v := .agg #[.int .i64 st, .slice A1 n1 c1]) (by simp [results, Try.results45, go_sem, x0, x1]) rfl ⟨_, rfl, ⟨_, rfl, (ho1.only oz (.inr (Nat.le_refl _))).mono (by omega) (by simp)⟩, (o1.trans oz).below (Nat.le_refl _) (Nat.le_refl _)⟩

set_option maxHeartbeats 1000000 in
theorem eqWalk_same (v1 v2 : Value) (k : Wk) (w : World) (hv1 : WkV 0 w.heap.size w v1 k) (hv2 : WkV 0 w.heap.size w v2 k) :
    Calls Try.prog 47 #[v1, v2] w fun e w' => e = .returned (.bool true) ∧ Below w.heap.size w w' := by
  obtain ⟨ss1, rfl, hs1⟩ := hv1
  obtain ⟨ss2, rfl, hs2⟩ := hv2
  obtain ⟨st, steps⟩ := k
  have hb0 : Below w.heap.size w ((w.alloc (.cells #[.int .i64 st, ss1] 62)).alloc (.cells #[.int .i64 st, ss2] 62)) := ((Below.refl _ _).alloc (Nat.le_refl _) _).alloc (by simp) _
  go_enter Try.func47, Try.ntmps47
  go_wp2_with fail
  refine (eqStepS_same ss1 ss2 steps _ (SlE.keep hs1 hb0) (SlE.keep hs2 hb0)).mono ?_
  rintro e w1 ⟨rfl, hb1⟩
  go_wp2_with fail
  go_ret
  exact ⟨rfl, below_trans hb0 hb1⟩

set_option maxHeartbeats 1000000 in
theorem markWalk_any (lo hi : Nat) (v : Value) (x : Wk) (k : Int) (w : World) (hv : WkO lo hi w v x) (hw : hi ≤ w.heap.size) (hk : 0 ≤ k) (h1 : x.2.length ≤ 1048576) (hk2 : k ≤ 1099511627776) :
    Calls Try.prog 48 #[v, .int .i64 k] w fun e w' => e = .returned (.int .i64 (k + 2 * x.2.length)) ∧ WkO lo hi w' v (x.1, mkStep k x.2.length) ∧ Only lo hi w w' := by
  obtain ⟨ss, rfl, hss⟩ := hv
  have hb0 : Below w.heap.size w (w.alloc (.cells #[.int .i64 x.1, ss] 62)) := (Below.refl _ _).alloc (Nat.le_refl _) _
  go_enter Try.func48, Try.ntmps48
  go_wp2_with fail
  refine (markStepS_any lo hi _ ss x.2 k _ (hss.below hb0 hw) hk (by omega)).mono ?_
  rintro e w1 ⟨rfl, hss1, ho1⟩
  have ho2 := (Only.of_below hb0 lo hi).trans ho1
  go_wp2_with fail
  go_ret
  exact ⟨rfl, ⟨ss, rfl, hss1⟩, ho2⟩

set_option maxHeartbeats 1000000 in
theorem heldWalk_any (v : Value) (st : Int) (n : Nat) (k : Int) (w : World) (hv : WkV 0 w.heap.size w v (st, mkStep k n)) (hk : 0 ≤ k) (h1 : n ≤ 1048576) (hk2 : k ≤ 1099511627776) :
    Calls Try.prog 60 #[v, .int .i64 k] w fun e w' => e = .returned (.int .i64 (k + 2 * n)) ∧ Below w.heap.size w w' := by
  obtain ⟨ss, rfl, hss⟩ := hv
  have hb0 : Below w.heap.size w (w.alloc (.cells #[.int .i64 st, ss] 62)) := (Below.refl _ _).alloc (Nat.le_refl _) _
  go_enter Try.func60, Try.ntmps60
  go_wp2_with fail
  refine (heldStepS_any ss n k _ (SlE.keep hss hb0) hk (by omega)).mono ?_
  rintro e w1 ⟨rfl, hb1⟩
  go_wp2_with fail
  go_ret
  exact ⟨rfl, below_trans hb0 hb1⟩
end Go.Proofs.Ytajjolkpgfegfaa

/- A walk is marked, with room for what was marked ahead of it. -/
namespace Go.Proofs.Ytajjolkpgfegfaa
set_option linter.unusedVariables false
set_option linter.unusedSimpArgs false
open Go.ChangeShapes Go.WideShapes Go.ChangeAt Go.RowKit
attribute [local go_sem] ext_cell ext_frozen ext_lt ext_lt1 ext_lt2 ext_lt3 ltn2 ltn3 ltn13 lts1 lts2 lts3
set_option maxHeartbeats 1000000 in
theorem markWalk_wide (lo hi : Nat) (v : Value) (x : Wk) (k : Int) (w : World) (hv : WkO lo hi w v x) (hw : hi ≤ w.heap.size) (hk : 0 ≤ k) (h1 : x.2.length ≤ 1048576) (hk2 : k ≤ 4398046511104) :
    Calls Try.prog 48 #[v, .int .i64 k] w fun e w' => e = .returned (.int .i64 (k + 2 * x.2.length)) ∧ WkO lo hi w' v (x.1, mkStep k x.2.length) ∧ Only lo hi w w' := by
  obtain ⟨ss, rfl, hss⟩ := hv
  have hb0 : Below w.heap.size w (w.alloc (.cells #[.int .i64 x.1, ss] 62)) := (Below.refl _ _).alloc (Nat.le_refl _) _
  go_enter Try.func48, Try.ntmps48
  go_wp2_with fail
  refine (markStepS_any lo hi _ ss x.2 k _ (hss.below hb0 hw) hk (by omega)).mono ?_
  rintro e w1 ⟨rfl, hss1, ho1⟩
  have ho2 := (Only.of_below hb0 lo hi).trans ho1
  go_wp2_with fail
  go_ret
  exact ⟨rfl, ⟨ss, rfl, hss1⟩, ho2⟩
end Go.Proofs.Ytajjolkpgfegfaa

