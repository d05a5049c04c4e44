/- Parts of the proof, joined into one text: PrR, PosC, HeldL. -/
import Derived.Test.YthnapjodmndlaaaPartOLOMJGBB
import Derived.Test.YthnapjodmndlaaaPartEJGNHGCK
import Derived.Test.YthnapjodmndlaaaPartLCJMOOFA
/- What the reference's l10Pairs holds in a round: the pairs, the edges, the table of places. -/
namespace Go.Proofs.Ythnapjodmndlaaa
set_option linter.unusedVariables false
set_option linter.unusedSimpArgs false
open Go.ChangeShapes Go.WideShapes Go.ChangeAt Go.RowKit

def cNt (t : Twn) : List Value := [.int .i64 (t.1 : Int), .int .i64 (t.2.1 : Int), .bool t.2.2, .int .i64 0, .int .i64 0]
theorem cNt_len (t : Twn) : (cNt t).length = 5 := rfl
theorem cNt_one (t : Twn) : ∀ u ∈ cNt t, u.oneCell' = true := by intro u hu; simp only [cNt, List.mem_cons, List.not_mem_nil, or_false] at hu; rcases hu with rfl | rfl | rfl | rfl | rfl <;> rfl
abbrev Tri := Nat × Nat × Nat
def cEg (e : Tri) : List Value := [.int .i64 (e.1 : Int), .int .i64 (e.2.1 : Int), .int .i64 (e.2.2 : Int)]
theorem cEg_len (e : Tri) : (cEg e).length = 3 := rfl
theorem cEg_one (e : Tri) : ∀ u ∈ cEg e, u.oneCell' = true := by intro u hu; simp only [cEg, List.mem_cons, List.not_mem_nil, or_false] at hu; rcases hu with rfl | rfl | rfl <;> rfl
theorem SlI.nt {lo hi : Nat} {w : World} {A : Option Addr} {n c : Nat} {xs : List Twn} (h : SlI lo hi w cNt 5 (.slice A n c) xs) {i : Nat} {x : Twn} (hx : xs[i]? = some x) :
    ∃ b o, A = some ⟨b, o, none⟩ ∧ b < hi ∧ w.cell? ⟨b, o + i * 5, none⟩ = some (.int .i64 (x.1 : Int)) ∧ w.cell? ⟨b, o + i * 5 + 1, none⟩ = some (.int .i64 (x.2.1 : Int)) ∧ w.cell? ⟨b, o + i * 5 + 2, none⟩ = some (.bool x.2.2) := by
  obtain ⟨A', c', hv, -, -, h⟩ := h
  cases hv
  obtain ⟨b, o, hA, -, h2, hc⟩ := h i x hx
  exact ⟨b, o, hA, h2, hc 0 _ rfl, hc 1 _ rfl, hc 2 _ rfl⟩
theorem SlI.eg {lo hi : Nat} {w : World} {A : Option Addr} {n c : Nat} {xs : List Tri} (h : SlI lo hi w cEg 3 (.slice A n c) xs) {i : Nat} {x : Tri} (hx : xs[i]? = some x) :
    ∃ b o, A = some ⟨b, o, none⟩ ∧ b < hi ∧ w.cell? ⟨b, o + i * 3, none⟩ = some (.int .i64 (x.1 : Int)) ∧ w.cell? ⟨b, o + i * 3 + 1, none⟩ = some (.int .i64 (x.2.1 : Int)) ∧ w.cell? ⟨b, o + i * 3 + 2, none⟩ = some (.int .i64 (x.2.2 : Int)) := by
  obtain ⟨A', c', hv, -, -, h⟩ := h
  cases hv
  obtain ⟨b, o, hA, -, h2, hc⟩ := h i x hx
  exact ⟨b, o, hA, h2, hc 0 _ rfl, hc 1 _ rfl, hc 2 _ rfl⟩
theorem Blk.set5 {w : World} {g : Nat} {t : TypeId} {c0 c1 c2 c3 c4 : Value} (h : Blk w g t #[c0, c1, c2, c3, c4]) (d0 d1 d2 d3 d4 : Value) : Blk (((((w.setCell ⟨g, 0, none⟩ d0).setCell ⟨g, 1, none⟩ d1).setCell ⟨g, 2, none⟩ d2).setCell ⟨g, 3, none⟩ d3).setCell ⟨g, 4, none⟩ d4) g t #[d0, d1, d2, d3, d4] := by
  have h2 := ((((h.set_ 0 d0).set_ 1 d1).set_ 2 d2).set_ 3 d3).set_ 4 d4
  simpa using h2
theorem below_set5 {B : Nat} {a w : World} (h : Below B a w) {g : Nat} (hg : B ≤ g) (d0 d1 d2 d3 d4 : Value) : Below B a (((((w.setCell ⟨g, 0, none⟩ d0).setCell ⟨g, 1, none⟩ d1).setCell ⟨g, 2, none⟩ d2).setCell ⟨g, 3, none⟩ d3).setCell ⟨g, 4, none⟩ d4) :=
  ((((h.setCell (p := ⟨g, 0, none⟩) hg d0).setCell (p := ⟨g, 1, none⟩) hg d1).setCell (p := ⟨g, 2, none⟩) hg d2).setCell (p := ⟨g, 3, none⟩) hg d3).setCell (p := ⟨g, 4, none⟩) hg d4
/-- the second row of a round, as far as it has come -/
def rowC (bi d : Bool) (i Y j : Nat) : List Twn := if bi = true then rowT d i Y j else []
theorem rowC_one (bi d : Bool) (i : Nat) {Y : Nat} (h : Y.testBit 0 = false) : rowC bi d i Y 1 = [] := by
  rw [rowC, rowT, mem_no h]
  split <;> rfl
theorem rowC_no {bi d : Bool} {i Y j : Nat} (h : (bi && Y.testBit j) = false) : rowC bi d i Y (j + 1) = rowC bi d i Y j := by
  rw [rowC, rowC]
  cases bi with
  | false => rfl
  | true => rw [Bool.true_and] at h; rw [rowT, mem_no h]; rfl
theorem rowC_yes {bi d : Bool} {i Y j : Nat} (h1 : bi = true) (h : Y.testBit j = true) : rowC bi d i Y (j + 1) = rowC bi d i Y j ++ [(i, j, d || decide (i ≠ j))] := by
  rw [rowC, rowC, if_pos h1, if_pos h1, rowT, mem_yes h, List.map_append]
  rfl
theorem rowC_end {bi d : Bool} {i Y j : Nat} (h : Y < 2 ^ j) (hj : j ≤ 21) : rowC bi d i Y 21 = rowC bi d i Y j := by rw [rowC, rowC, rowT, rowT, mem_stop h hj]
theorem upT_succ (d : Bool) (X Y i : Nat) : upT d X Y (i + 1) = upT d X Y i ++ rowC (X.testBit i) d i Y 21 := by
  cases hb : X.testBit i with
  | false => rw [upT, mem_no hb]; simp [upT, rowC]
  | true => rw [upT, mem_yes hb, List.flatMap_append]; simp [upT, rowC]
theorem upT_one (d : Bool) {X : Nat} (Y : Nat) (h : X.testBit 0 = false) : upT d X Y 1 = [] := by rw [upT, mem_no h]; rfl
theorem upT_end (d : Bool) {X i : Nat} (Y : Nat) (h : X < 2 ^ i) (hi : i ≤ 21) : upT d X Y 21 = upT d X Y i := by rw [upT, upT, mem_stop h hi]
theorem rowC_len (bi d : Bool) (i Y : Nat) {j : Nat} (hj : j ≤ 21) : (rowC bi d i Y j).length ≤ 21 := by
  rw [rowC]
  split
  · exact Nat.le_trans (rowT_len d i Y j) hj
  · simp
theorem aftP_zero (p : Pz) (s : Nat) (k : Int) : (aftP p s k).testBit 0 = false := by
  cases h : (aftP p s k).testBit 0 with
  | false => rfl
  | true => have := aftP_bit h; omega
theorem aftP_lt2 (p : Pz) (s : Nat) (k : Int) : aftP p s k < 2 ^ (p.lets.length + 1) := by
  refine Nat.lt_pow_two_of_testBit _ fun i hi => ?_
  cases h : (aftP p s k).testBit i with
  | false => rfl
  | true => have := aftP_bit h; omega
theorem twnX_up (p : Pz) (k : Nat) (t : Twn) : upT t.2.2 (aftP p (bit t.1) (k : Int)) (aftP p (bit t.2.1) (k : Int)) 21 = twnX p k t := rfl
theorem twnX_len (p : Pz) (k : Nat) (t : Twn) : (twnX p k t).length ≤ 441 := by rw [← twnX_up]; exact upT_len _ _ _ 21
theorem edT_len (p : Pz) (i k : Nat) : (edT p i k).length ≤ 441 := by rw [edT, List.length_map]; exact twnX_len _ _ _
theorem flat_lenN {α : Type} {f : Nat → List α} {m : Nat} (h : ∀ i, (f i).length ≤ m) (n : Nat) : ((List.range n).flatMap f).length ≤ n * m := by
  induction n with
  | zero => simp
  | succ n ih =>
    rw [List.range_succ, List.flatMap_append, List.length_append, Nat.succ_mul]
    have := h n
    simp only [List.flatMap_cons, List.flatMap_nil, List.append_nil]
    omega
theorem edI_len (p : Pz) (i : Nat) : (edI p i).length ≤ 9 * 441 := flat_lenN (edT_len p i) 9
theorem edgT_len (p : Pz) {k n : Nat} (cur : List Twn) (hk : k ≤ 882) (hn : n ≤ 9) (hc : cur.length ≤ 1000) : (edgT p k n cur).length ≤ 4000000 := by
  rw [edgT, List.length_append, List.length_append, List.length_map]
  have h1 := flat_lenN (edI_len p) k
  have h2 := flat_lenN (edT_len p k) n
  have h3 : k * (9 * 441) ≤ 882 * (9 * 441) := Nat.mul_le_mul_right _ hk
  have h4 : n * 441 ≤ 9 * 441 := Nat.mul_le_mul_right _ hn
  omega
theorem elNt : ElemOk Try.prog 44 67 (.agg #[.int .i64 0, .int .i64 0, .bool false, .int .i64 0, .int .i64 0]) 5 40 := ⟨Try.underlying44, by kernel_rfl, rfl, by omega⟩
theorem elEg : ElemOk Try.prog 45 51 (.agg #[.int .i64 0, .int .i64 0, .int .i64 0]) 3 24 := ⟨Try.underlying45, by kernel_rfl, rfl, by omega⟩
structure PrR (lo : Nat) (w0 wr : World) (vl ve : Value) (g : Nat) (L : List Twn) (E : List Tri) (T : List Int) : Prop where
  ls : wr.ownsRow lo 67 5 vl L.length (L.flatMap cNt)
  es : wr.ownsRow lo 51 3 ve E.length (E.flatMap cEg)
  ts : wr.ownsRow lo 3 1 (.slice (some ⟨g, 0, none⟩) 882 882) 882 (T.flatMap cI)
  d1 : ∀ b, vl.ownBlock = some b → ve.ownBlock ≠ some b
  d2 : vl.ownBlock ≠ some g
  d3 : ve.ownBlock ≠ some g
  bel : Below lo w0 wr
section
variable {lo : Nat} {w0 wr w4 : World} {vl ve v' : Value} {g : Nat} {L : List Twn} {E : List Tri} {T : List Int}
theorem PrR.gLt (h : PrR lo w0 wr vl ve g L E T) : lo ≤ g ∧ g < wr.heap.size := h.ts.lt g rfl
theorem PrR.below (h : PrR lo w0 wr vl ve g L E T) (hs : lo ≤ w0.heap.size) (hb : Below wr.heap.size wr w4) : PrR lo w0 w4 vl ve g L E T :=
  ⟨ownsRow_below h.ls hb (Nat.le_refl _), ownsRow_below h.es hb (Nat.le_refl _), ownsRow_below h.ts hb (Nat.le_refl _), h.d1, h.d2, h.d3, h.bel.trans (hb.mono (Nat.le_trans hs h.bel.size))⟩
theorem PrR.node (h : PrR lo w0 wr vl ve g L E T) (hs : lo ≤ w0.heap.size) {L' : List Twn} {o : Obj} (hrow : w4.ownsRow lo 67 5 v' L'.length (L'.flatMap cNt)) (hg : (wr.alloc o).grownBy w4 vl.ownBlock) (hat : v'.ownBlock = vl.ownBlock ∨ ∃ b, v'.ownBlock = some b ∧ wr.heap.size ≤ b) :
    PrR lo w0 w4 v' ve g L' E T := by
  have hl := h.ls.lt
  have he := h.es.lt
  have ht := h.gLt
  refine ⟨hrow, ?_, ?_, ?_, ?_, h.d3, ?_⟩
  · refine ownsRow_block h.es fun b hb => ?_
    have h1 := he b hb
    rw [hg.block b (by simp; omega) (fun e => h.d1 b e.symm hb), Below.heap_alloc _ _ _ h1.2]
  · refine ownsRow_block h.ts fun b hb => ?_
    have hb : some g = some b := hb
    cases hb
    rw [hg.block g (by simp; omega) (fun e => h.d2 e.symm), Below.heap_alloc _ _ _ ht.2]
  · intro b hb hb2
    rcases hat with e | ⟨c, e, hge⟩
    · exact h.d1 b (by rw [← e]; exact hb) hb2
    · rw [e] at hb
      cases hb
      have := (he b hb2).2
      omega
  · intro hb
    rcases hat with e | ⟨c, e, hge⟩
    · exact h.d2 (by rw [← e]; exact hb)
    · rw [e] at hb
      cases hb
      omega
  · exact (h.bel.alloc (Nat.le_trans hs h.bel.size) o).grown hg (by have := h.bel.size; simp; omega) (fun b hb => (hl b hb).1)
theorem PrR.edge (h : PrR lo w0 wr vl ve g L E T) (hs : lo ≤ w0.heap.size) {E' : List Tri} {o : Obj} (hrow : w4.ownsRow lo 51 3 v' E'.length (E'.flatMap cEg)) (hg : (wr.alloc o).grownBy w4 ve.ownBlock) (hat : v'.ownBlock = ve.ownBlock ∨ ∃ b, v'.ownBlock = some b ∧ wr.heap.size ≤ b) :
    PrR lo w0 w4 vl v' g L E' T := by
  have hl := h.ls.lt
  have he := h.es.lt
  have ht := h.gLt
  refine ⟨?_, hrow, ?_, ?_, h.d2, ?_, ?_⟩
  · refine ownsRow_block h.ls fun b hb => ?_
    have h1 := hl b hb
    rw [hg.block b (by simp; omega) (fun e => h.d1 b hb e.symm), Below.heap_alloc _ _ _ h1.2]
  · refine ownsRow_block h.ts fun b hb => ?_
    have hb : some g = some b := hb
    cases hb
    rw [hg.block g (by simp; omega) (fun e => h.d3 e.symm), Below.heap_alloc _ _ _ ht.2]
  · intro b hb hb2
    rcases hat with e | ⟨c, e, hge⟩
    · exact h.d1 b hb (by rw [← e]; exact hb2)
    · rw [e] at hb2
      cases hb2
      have := (hl b hb).2
      omega
  · intro hb
    rcases hat with e | ⟨c, e, hge⟩
    · exact h.d3 (by rw [← e]; exact hb)
    · rw [e] at hb
      cases hb
      omega
  · exact (h.bel.alloc (Nat.le_trans hs h.bel.size) o).grown hg (by have := h.bel.size; simp; omega) (fun b hb => (he b hb).1)
theorem PrR.put (h : PrR lo w0 wr vl ve g L E T) (s : Nat) (x : Int) : PrR lo w0 (wr.setCell ⟨g, s, none⟩ (.int .i64 x)) vl ve g L E (T.set s x) := by
  have ht := h.gLt
  have hst := (World.ownsRow.stored h.ts s (.int .i64 x)).1
  rw [flatI_set] at hst
  refine ⟨?_, ?_, hst, h.d1, h.d2, h.d3, h.bel.setCell ht.1 _⟩
  · exact ownsRow_block h.ls fun b hb => Below.heap_setCell _ _ _ _ (by intro e; simp only at e; subst e; exact h.d2 hb)
  · exact ownsRow_block h.es fun b hb => Below.heap_setCell _ _ _ _ (by intro e; simp only at e; subst e; exact h.d3 hb)
theorem PrR.cellT (h : PrR lo w0 wr vl ve g L E T) (hT : T.length = 882) {s : Nat} (hs : s < 882) : wr.cell? ⟨g, s, none⟩ = some (.int .i64 (T.getD s 0)) ∧ wr.frozen? ⟨g, s, none⟩ = false :=
  ⟨(World.ownsRow.cellAt h.ts s (by omega)).trans (flatI_at (getD_of (by omega))), World.ownsRow.frozenAt h.ts s⟩
end
end Go.Proofs.Ythnapjodmndlaaa

/- Whether a set of positions accepts (both sides). -/
namespace Go.Proofs.Ythnapjodmndlaaa
set_option linter.unusedVariables false
set_option linter.unusedSimpArgs false
open Go.ChangeShapes Go.WideShapes Go.ChangeAt Go.RowKit
attribute [local go_sem] ext_cell ext_frozen ext_lt ext_lt1 ext_lt2 ext_lt3 ltn2 ltn3 ltn13 lts1 lts2 lts3

set_option maxRecDepth 100000 in
set_option maxHeartbeats 2000000 in
theorem implAccepts (v : Value) (p : Pz) (s : Nat) (w : World) (hv : PzV 0 w.heap.size w v p) (hok : pzOk p = true) (hs : s < 2 ^ 21) :
    Calls Try.prog 37 #[v, .int .i64 (s : Int)] w fun e w' => e = .returned (.bool (accP p s)) ∧ Below w.heap.size w w' := by
  obtain ⟨R, hR⟩ : ∃ R, R = accP p s := ⟨_, rfl⟩
  rw [← hR]
  have HR := Lib.hid hR
  clear hR
  obtain ⟨vl, vf, rfl, h1, h2⟩ := hv
  obtain ⟨A, n, c, rfl⟩ := h1.shape
  obtain ⟨B, n2, d, rfl⟩ := h2.shape
  have hL := setP_lt (pz_facts hok).1 (pz_facts hok).2.2.2.2.2
  have HA1 := Lib.hid (and_one (s := s) (by omega))
  obtain ⟨pl, pf, pla, po, nul⟩ := p
  simp only at hL
  obtain ⟨y, rfl⟩ : ∃ y : Nat, pla = (y : Int) := ⟨pla.toNat, by omega⟩
  simp only [Int.toNat_natCast] at hL
  have hdv : (s : Int) / 2 ^ 1 = ((s >>> 1 : Nat) : Int) := by rw [Nat.shiftRight_eq_div_pow]; exact shr_nat s 1 (by omega)
  have hdv2 : (s : Int) / 2 = ((s >>> 1 : Nat) : Int) := by rw [← hdv]; rfl
  have hsl : s >>> 1 < 2 ^ 62 := by rw [Nat.shiftRight_eq_div_pow]; omega
  have hand := i64_and_nat (s >>> 1) y hsl (by omega)
  have HRR := Lib.hid (show R = ((s.testBit 0 && nul) || decide (s >>> 1 &&& y ≠ 0)) from HR.out)
  have hal : Below w.heap.size w (w.alloc (.cells #[.slice A n c, .int .i64 pf, .int .i64 (y : Int), .slice B n2 d, .bool nul] 27)) := (Below.refl _ _).alloc (Nat.le_refl _) _
  have HAL := Lib.hid hal
  have hq : ((((s >>> 1 &&& y : Nat) : Int) != 0)) = decide (s >>> 1 &&& y ≠ 0) := by
    by_cases h0 : s >>> 1 &&& y = 0
    · rw [h0]; rfl
    · rw [decide_eq_true h0]; simpa using h0
  clear hok h1 h2 HR hsl hal hs hL
  obtain ⟨Q, hQ⟩ : ∃ Q, Q = s >>> 1 &&& y := ⟨_, rfl⟩
  rw [← hQ] at hand hq HRR
  obtain ⟨q, hqq⟩ : ∃ q, q = decide (Q ≠ 0) := ⟨_, rfl⟩
  rw [← hqq] at hq HRR
  rw [← hdv2] at hand
  rw [← hand] at hq
  have HQ := Lib.hid hq
  clear hQ hqq hdv hdv2 hand hq
  cases hb : s.testBit 0 with
  | false =>
    rw [hb, if_neg (by simp)] at HA1
    rw [hb, Bool.false_and, Bool.false_or, ← HQ.out] at HRR
    have hc : (bits .and .i64 (s : Int) 1 == 1) = false := by rw [HA1.out]; rfl
    clear hb HA1
    go_enter Try.func37, Try.ntmps37
    go_wp2_with fail
    go_ret
    exact ⟨by rw [HRR.out]; rfl, HAL.out⟩
  | true =>
    rw [hb, if_pos rfl] at HA1
    rw [hb, Bool.true_and] at HRR
    have hc : (bits .and .i64 (s : Int) 1 == 1) = true := by rw [HA1.out]; rfl
    clear hb HA1
    cases nul with
    | true =>
      rw [Bool.true_or] at HRR
      go_enter Try.func37, Try.ntmps37
      go_wp2_with fail
      go_ret
      exact ⟨by rw [HRR.out]; rfl, HAL.out⟩
    | false =>
      rw [Bool.false_or, ← HQ.out] at HRR
      go_enter Try.func37, Try.ntmps37
      go_wp2_with fail
      go_ret
      exact ⟨by rw [HRR.out]; rfl, HAL.out⟩
set_option maxRecDepth 100000 in
set_option maxHeartbeats 2000000 in
theorem specAccepts (v : Value) (p : Pz) (s : Nat) (w : World) (hv : PzV 0 w.heap.size w v p) (hok : pzOk p = true) (hs : s < 2 ^ 21) :
    Calls Try.prog 44 #[v, .int .i64 (s : Int)] w fun e w' => e = .returned (.bool (accP p s)) ∧ Below w.heap.size w w' := by
  obtain ⟨R, hR⟩ : ∃ R, R = accP p s := ⟨_, rfl⟩
  rw [← hR]
  have HR := Lib.hid hR
  clear hR
  obtain ⟨vl, vf, rfl, h1, h2⟩ := hv
  obtain ⟨A, n, c, rfl⟩ := h1.shape
  obtain ⟨B, n2, d, rfl⟩ := h2.shape
  have hL := setP_lt (pz_facts hok).1 (pz_facts hok).2.2.2.2.2
  have HA1 := Lib.hid (and_one (s := s) (by omega))
  obtain ⟨pl, pf, pla, po, nul⟩ := p
  simp only at hL
  obtain ⟨y, rfl⟩ : ∃ y : Nat, pla = (y : Int) := ⟨pla.toNat, by omega⟩
  simp only [Int.toNat_natCast] at hL
  have hdv : (s : Int) / 2 ^ 1 = ((s >>> 1 : Nat) : Int) := by rw [Nat.shiftRight_eq_div_pow]; exact shr_nat s 1 (by omega)
  have hdv2 : (s : Int) / 2 = ((s >>> 1 : Nat) : Int) := by rw [← hdv]; rfl
  have hsl : s >>> 1 < 2 ^ 62 := by rw [Nat.shiftRight_eq_div_pow]; omega
  have hand := i64_and_nat (s >>> 1) y hsl (by omega)
  have HRR := Lib.hid (show R = ((s.testBit 0 && nul) || decide (s >>> 1 &&& y ≠ 0)) from HR.out)
  have hal : Below w.heap.size w (w.alloc (.cells #[.slice A n c, .int .i64 pf, .int .i64 (y : Int), .slice B n2 d, .bool nul] 27)) := (Below.refl _ _).alloc (Nat.le_refl _) _
  have HAL := Lib.hid hal
  have hq : ((((s >>> 1 &&& y : Nat) : Int) != 0)) = decide (s >>> 1 &&& y ≠ 0) := by
    by_cases h0 : s >>> 1 &&& y = 0
    · rw [h0]; rfl
    · rw [decide_eq_true h0]; simpa using h0
  clear hok h1 h2 HR hsl hal hs hL
  obtain ⟨Q, hQ⟩ : ∃ Q, Q = s >>> 1 &&& y := ⟨_, rfl⟩
  rw [← hQ] at hand hq HRR
  obtain ⟨q, hqq⟩ : ∃ q, q = decide (Q ≠ 0) := ⟨_, rfl⟩
  rw [← hqq] at hq HRR
  rw [← hdv2] at hand
  rw [← hand] at hq
  have HQ := Lib.hid hq
  clear hQ hqq hdv hdv2 hand hq
  cases hb : s.testBit 0 with
  | false =>
    rw [hb, if_neg (by simp)] at HA1
    rw [hb, Bool.false_and, Bool.false_or, ← HQ.out] at HRR
    have hc : (bits .and .i64 (s : Int) 1 == 1) = false := by rw [HA1.out]; rfl
    clear hb HA1
    go_enter Try.func44, Try.ntmps44
    go_wp2_with fail
    go_ret
    exact ⟨by rw [HRR.out]; rfl, HAL.out⟩
  | true =>
    rw [hb, if_pos rfl] at HA1
    rw [hb, Bool.true_and] at HRR
    have hc : (bits .and .i64 (s : Int) 1 == 1) = true := by rw [HA1.out]; rfl
    clear hb HA1
    cases nul with
    | true =>
      rw [Bool.true_or] at HRR
      go_enter Try.func44, Try.ntmps44
      go_wp2_with fail
      go_ret
      exact ⟨by rw [HRR.out]; rfl, HAL.out⟩
    | false =>
      rw [Bool.false_or, ← HQ.out] at HRR
      go_enter Try.func44, Try.ntmps44
      go_wp2_with fail
      go_ret
      exact ⟨by rw [HRR.out]; rfl, HAL.out⟩
end Go.Proofs.Ythnapjodmndlaaa

/- A region that draws its order: loads come first under a condition S that is asked before its last operations alone (a store to a cell that the region loads). Over any program. -/
namespace Go.Proofs.Ythnapjodmndlaaa
set_option linter.unusedVariables false
set_option linter.unusedSimpArgs false
open Go.RowKit

section
variable {P : Program} {ops : Array Oper} {Q : Exit → Act → World → Prop} {md : Region.Mode} {S : World → Prop} {n : Nat}

/-- whatever order is picked; S holds behind each operation below n -/
def wpAnyF (P : Program) (md : Region.Mode) (ops : Array Oper) (Q : Exit → Act → World → Prop) (S : World → Prop) (n : Nat) : Nat → Array Bool → Act → World → Prop
  | 0, listed, a, w => Region.ready md ops listed = [] ∧ Q .normal a w
  | f + 1, listed, a, w => (Region.ready md ops listed = [] → Q .normal a w) ∧
    ∀ i ∈ Region.ready md ops listed, wpOp P ops Q i (fun a' w' => (i < n → S w') ∧ wpAnyF P md ops Q S n f (listed.setIfInBounds i true) a' w') a w
theorem F_any : ∀ (f : Nat) (listed : Array Bool) (a : Act) (w : World), wpAnyF P md ops Q S n f listed a w → wpAny P md ops Q f listed a w
  | 0, _, _, _, h => h
  | f + 1, _, _, _, h => ⟨h.1, fun i hi => wpOp_mono (fun _ _ h' => F_any f _ _ _ h'.2) (h.2 i hi)⟩
theorem F_first {i : Nat} {oi : Oper} {v : Value} (hi : ops[i]? = some oi) (hsel : ∀ (j : Nat) (o : Oper) cs b, ops[j]? = some o → o.op ≠ .select cs b) (hQ : ∀ c a w, Q (.panic c) (a.put oi.dst v) w → Q (.panic c) a w)
    (hs : Region.sinkB md ops n = true) (hc : Region.chainB md ops n = true) (hn : n < ops.size) (hin : i < n) : ∀ (f : Nat) (listed : Array Bool) (a : Act) (w : World), HeadInv md ops n listed →
      (∀ j oj, ops[j]? = some oj → j ≠ i → listed.getD j true = false → (∀ e ∈ oj.after, Region.binds md e = true → e.on ≠ i) → oi.apart ops oj = true) →
      i ∈ Region.ready md ops listed → YieldsIf P ops S oi v a → S w →
      wpAnyF P md ops Q S n f (listed.setIfInBounds i true) (a.put oi.dst v) w → wpAnyF P md ops Q S n (f + 1) listed a w := by
  intro f
  induction f with
  | zero =>
    intro listed a w inv _ hr hy hS H
    have hun := (mem_ready.1 hr).1
    refine ⟨fun h => (by rw [h] at hr; cases hr), fun j hj => ?_⟩
    by_cases hji : j = i
    · subst hji; exact hy.wpOp hi hS ⟨fun _ => hS, H⟩
    · have := ready_mono hj hji
      rw [H.1] at this
      cases this
  | succ f ih =>
    intro listed a w inv hfree hr hy hS H
    have hun := (mem_ready.1 hr).1
    refine ⟨fun h => (by rw [h] at hr; cases hr), fun j hj => ?_⟩
    have hjn : j < n := by
      rcases Nat.lt_or_ge j n with h | h
      · exact h
      · exact absurd hj (tail_waits hs hc hn inv _ i rfl hin hun j h)
    by_cases hji : j = i
    · subst hji; exact hy.wpOp hi hS ⟨fun _ => hS, H⟩
    · have h1 := H.2 j (ready_mono hj hji)
      obtain ⟨hjun, oj, hoj, hall⟩ := mem_ready.1 hj
      have hnot : ∀ e ∈ oj.after, Region.binds md e = true → e.on ≠ i := fun e he hb heq => by
        have h1 := hall e he hb
        rw [heq, getD_both hun] at h1
        cases h1
      have h2 := wpOp_putIf hoj (hfree j oj hoj hji hjun hnot) (fun cs b => hsel i oi cs b hi) (fun cs b => hsel j oj cs b hoj) hQ hy h1
      have hfree' : ∀ k ok, ops[k]? = some ok → k ≠ i → (listed.setIfInBounds j true).getD k true = false → (∀ e ∈ ok.after, Region.binds md e = true → e.on ≠ i) → oi.apart ops ok = true := fun k ok hk hki hun hno => by
        refine hfree k ok hk hki ?_ hno
        by_cases hjk : j = k
        · subst hjk; exact hjun
        · rw [getD_set_ne true hjk] at hun; exact hun
      refine wpOp_mono (fun a' w' h3 => ⟨h3.2.1, ih (listed.setIfInBounds j true) a' w' (inv.set hj hjn) hfree' (ready_mono hr (Ne.symm hji)) h3.1 (h3.2.1 hjn) ?_⟩) h2
      rw [Array.setIfInBounds_comm _ _ hji]
      exact h3.2.2
theorem F_take {i : Nat} {oi : Oper} {v : Value} {f : Nat} {listed : Array Bool} {a : Act} {w : World} (hi : ops[i]? = some oi) (hB : (Region.noSelect ops && Region.sinkB md ops n && Region.chainB md ops n && decide (n < ops.size) && decide (i < n)) = true)
    (hf : Region.free md ops listed i = true) (hr : (Region.ready md ops listed).contains i = true) (hQ : ∀ c a w, Q (.panic c) (a.put oi.dst v) w → Q (.panic c) a w) (inv : HeadInv md ops n listed) (hy : YieldsIf P ops S oi v a) (hS : S w)
    (h : HeadInv md ops n (listed.setIfInBounds i true) → wpAnyF P md ops Q S n f (listed.setIfInBounds i true) (a.put oi.dst v) w) : wpAnyF P md ops Q S n (f + 1) listed a w := by
  simp only [Bool.and_eq_true, decide_eq_true_eq] at hB
  obtain ⟨⟨⟨⟨h1, h2⟩, h3⟩, h4⟩, h5⟩ := hB
  have hr' : i ∈ Region.ready md ops listed := by simpa using hr
  exact F_first hi (Region.noSelect_spec h1) hQ h2 h3 h4 h5 f listed a w inv (Region.free_spec hi hf) hr' hy hS (h (inv.set hr' h5))
/-- the only one that may come up: an operation below n -/
theorem F_one {i : Nat} {oi : Oper} {f : Nat} {listed : Array Bool} {a : Act} {w : World} (hr : Region.ready md ops listed = [i]) (hi : ops[i]? = some oi) (hg : oi.guard = none) (hin : i < n) (inv : HeadInv md ops n listed)
    (h : ∀ K : Act → World → Prop, Shut (∀ a' w', S w' → (S w' → HeadInv md ops n (listed.setIfInBounds i true) → wpAnyF P md ops Q S n f (listed.setIfInBounds i true) a' w') → K a' w') → Oper.wp P oi a w K Q) : wpAnyF P md ops Q S n (f + 1) listed a w := by
  refine ⟨fun h0 => (by rw [hr] at h0; cases h0), fun j hj => ?_⟩
  have hj2 := hj
  rw [hr] at hj2
  obtain rfl : j = i := by simpa using hj2
  have hw : Region.wanted oi (yielded ops a.tmps) = true := by simp [Region.wanted, hg]
  unfold wpOp
  simp only [hi, hw, if_true]
  exact .inl (h _ (fun a' w' hS hF => ⟨fun _ => hS, hF hS (inv.set hj hin)⟩))
/-- the last one -/
theorem F_last {i : Nat} {oi : Oper} {f : Nat} {listed : Array Bool} {a : Act} {w : World} (hr : Region.ready md ops listed = [i]) (hi : ops[i]? = some oi) (hg : oi.guard = none) (hin : n ≤ i) (he : Region.ready md ops (listed.setIfInBounds i true) = [])
    (h : ∀ K : Act → World → Prop, (∀ a' w', Q .normal a' w' → K a' w') → Oper.wp P oi a w K Q) : wpAnyF P md ops Q S n (f + 1) listed a w := by
  refine ⟨fun h0 => (by rw [hr] at h0; cases h0), fun j hj => ?_⟩
  rw [hr] at hj
  obtain rfl : j = i := by simpa using hj
  have hw : Region.wanted oi (yielded ops a.tmps) = true := by simp [Region.wanted, hg]
  unfold wpOp
  simp only [hi, hw, if_true]
  refine .inl (h _ (fun a' w' hq => ⟨fun h => absurd h (by omega), ?_⟩))
  cases f with
  | zero => exact ⟨he, hq⟩
  | succ f => exact ⟨fun _ => hq, by rw [he]; simp⟩
/-- two that may come up -/
theorem F_two {i j : Nat} {oi oj : Oper} {f : Nat} {listed : Array Bool} {a : Act} {w : World} (hr : Region.ready md ops listed = [i, j]) (hi : ops[i]? = some oi) (hj : ops[j]? = some oj) (hgi : oi.guard = none) (hgj : oj.guard = none) (hin : i < n ∧ j < n) (inv : HeadInv md ops n listed)
    (h1 : ∀ K : Act → World → Prop, Shut (∀ a' w', S w' → (S w' → HeadInv md ops n (listed.setIfInBounds i true) → wpAnyF P md ops Q S n f (listed.setIfInBounds i true) a' w') → K a' w') → Oper.wp P oi a w K Q)
    (h2 : ∀ K : Act → World → Prop, Shut (∀ a' w', S w' → (S w' → HeadInv md ops n (listed.setIfInBounds j true) → wpAnyF P md ops Q S n f (listed.setIfInBounds j true) a' w') → K a' w') → Oper.wp P oj a w K Q) : wpAnyF P md ops Q S n (f + 1) listed a w := by
  refine ⟨fun h0 => (by rw [hr] at h0; cases h0), fun k hk => ?_⟩
  have hk2 := hk
  rw [hr] at hk2
  simp only [List.mem_cons, List.not_mem_nil, or_false] at hk2
  rcases hk2 with rfl | rfl
  · have hw : Region.wanted oi (yielded ops a.tmps) = true := by simp [Region.wanted, hgi]
    unfold wpOp
    simp only [hi, hw, if_true]
    exact .inl (h1 _ (fun a' w' hS hF => ⟨fun _ => hS, hF hS (inv.set hk hin.1)⟩))
  · have hw : Region.wanted oj (yielded ops a.tmps) = true := by simp [Region.wanted, hgj]
    unfold wpOp
    simp only [hj, hw, if_true]
    exact .inl (h2 _ (fun a' w' hS hF => ⟨fun _ => hS, hF hS (inv.set hk hin.2)⟩))
/-- one of the chain at the end, not the last -/
theorem F_tail {i : Nat} {oi : Oper} {f : Nat} {listed : Array Bool} {a : Act} {w : World} (hr : Region.ready md ops listed = [i]) (hi : ops[i]? = some oi) (hg : oi.guard = none) (hin : n ≤ i)
    (h : ∀ K : Act → World → Prop, Shut (∀ a' w', wpAnyF P md ops Q S n f (listed.setIfInBounds i true) a' w' → K a' w') → Oper.wp P oi a w K Q) : wpAnyF P md ops Q S n (f + 1) listed a w := by
  refine ⟨fun h0 => (by rw [hr] at h0; cases h0), fun j hj => ?_⟩
  rw [hr] at hj
  obtain rfl : j = i := by simpa using hj
  have hw : Region.wanted oi (yielded ops a.tmps) = true := by simp [Region.wanted, hg]
  unfold wpOp
  simp only [hi, hw, if_true]
  exact .inl (h _ (fun a' w' hF => ⟨fun hlt => absurd hlt (by omega), hF⟩))
theorem F_start {id : Nat} {a : Act} {w : World} (n : Nat) (S : World → Prop) (hm : P.follows .mixedOrders = true) (hS : S w.drew)
    (h : S w.drew → HeadInv .any ops n (Array.replicate ops.size false) → wpAnyF P .any ops Q S n ops.size (Array.replicate ops.size false) a w.drew) : (Code.region id ops true).wp P Q a w :=
  wp_region_any hm (F_any _ _ _ _ (h hS ⟨by simp, fun j oj _ hl => (by rw [getD_replicate_false] at hl; cases hl), fun t _ ht => getD_in (by simpa using ht) (getD_replicate_false _ _)⟩))

/-- append(s, x): as an operation by itself; the one element lies in block H -/
theorem op_append1 {w : World} {α : Type} (E : α → List Value) {o : Oper} {a : Act} {K : Act → World → Prop} {t e : TypeId} {z : Value} {k bytes : Nat} (el : ElemOk P t e z k bytes) (hgd : o.guard = none) (s y : Operand)
    (ho : o.op = .call { callee := .builtin .append, args := #[s, y], argTypes := #[t, t] })
    (base : Nat) (v : Value) (xs : List α) (x : α) (c H : Nat) (hs : a.eval s = v) (hown : w.ownsRow base e k v xs.length (xs.flatMap E)) (hy : a.eval y = .slice (some ⟨H, 0, none⟩) 1 c)
    (hH : w.heap[H]? = some (.cells (E x).toArray e (0, 0))) (hE : (E x).length = k) (h1 : ∀ u ∈ E x, u.oneCell' = true) (hbytes : (xs.length + 1) * bytes ≤ 140737488355328) (hb0 : 0 < bytes) (hbase : base ≤ w.heap.size)
    (h : ∀ g cap w', w'.ownsRow base e k (.slice (some ⟨g, 0, none⟩) (xs.length + 1) cap) (xs ++ [x]).length ((xs ++ [x]).flatMap E) → w.grownBy w' v.ownBlock → (v.ownBlock = some g ∨ w.heap.size ≤ g) → g < w'.heap.size →
      K (a.put o.dst (.slice (some ⟨g, 0, none⟩) (xs.length + 1) cap)) w') : Oper.wp P o a w K Q := by
  have h2 := step_append1 (ops := #[]) (EE := True) (Q := Q) (K := K) E el hgd s y ho base v xs x c H hs hown hy hH hE h1 hbytes hb0 hbase h
  have hw : Region.wanted o (yielded #[] a.tmps) = true := by simp [Region.wanted, hgd]
  rwa [if_pos hw] at h2
/-- the same at the head of a list of operations -/
theorem wpList_append2 {w : World} {α : Type} (E : α → List Value) {rest : List Oper} {o : Oper} {a : Act} {t e : TypeId} {z : Value} {k bytes : Nat} (el : ElemOk P t e z k bytes) (hgd : o.guard = none) (s y : Operand)
    (ho : o.op = .call { callee := .builtin .append, args := #[s, y], argTypes := #[t, t] })
    (base : Nat) (v : Value) (xs : List α) (x : α) (c H : Nat) (hs : a.eval s = v) (hown : w.ownsRow base e k v xs.length (xs.flatMap E)) (hy : a.eval y = .slice (some ⟨H, 0, none⟩) 1 c)
    (hH : w.heap[H]? = some (.cells (E x).toArray e (0, 0))) (hE : (E x).length = k) (h1 : ∀ u ∈ E x, u.oneCell' = true) (hbytes : (xs.length + 1) * bytes ≤ 140737488355328) (hb0 : 0 < bytes) (hbase : base ≤ w.heap.size)
    (h : ∀ g cap w', w'.ownsRow base e k (.slice (some ⟨g, 0, none⟩) (xs.length + 1) cap) (xs ++ [x]).length ((xs ++ [x]).flatMap E) → w.grownBy w' v.ownBlock → (v.ownBlock = some g ∨ w.heap.size ≤ g) → g < w'.heap.size →
      wpList P ops Q rest (a.put o.dst (.slice (some ⟨g, 0, none⟩) (xs.length + 1) cap)) w') : wpList P ops Q (o :: rest) a w :=
  wpList_plain hgd fun _ hK => op_append1 E el hgd s y ho base v xs x c H hs hown hy hH hE h1 hbytes hb0 hbase fun g cap w' h2 h3 h4 h5 => hK _ _ (h g cap w' h2 h3 h4 h5)
end
end Go.Proofs.Ythnapjodmndlaaa

