/- Edge in the laws' helpers: equal lists are told equal; marking, looking, copying, measuring. -/
import Derived.Test.YtmlfkledhnlkeaaGrow
import Derived.Test.YtmlfkledhnlkeaaTail
namespace Go.Proofs.Ytmlfkledhnlkeaa
set_option linter.unusedVariables false
set_option linter.unusedSimpArgs false
open Go.ChangeShapes Go.WideShapes Go.ChangeAt Go.RowKit
attribute [local go_sem] ext_cell ext_frozen ext_lt ext_lt1 ext_lt2 ext_lt3 ltn2 ltn3 ltn13 lts1 lts2 lts3

theorem eqEdge_same (p : Ed) (w : World) :
    Calls Try.prog 124 #[.agg #[.int .i64 p.1, .int .i64 p.2.1, .int .i64 p.2.2.1, .int .i64 p.2.2.2], .agg #[.int .i64 p.1, .int .i64 p.2.1, .int .i64 p.2.2.1, .int .i64 p.2.2.2]] w fun e w' => e = .returned (.bool true) ∧ Below w.heap.size w w' := by
  obtain ⟨a0, a1, a2, a3⟩ := p
  go_enter Try.func124, Try.ntmps124
  go_wp2
  go_ret
  refine ⟨rfl, ?_⟩
  repeat (first | exact Below.refl _ _ | refine Below.alloc ?_ (by simp) _)
set_option maxHeartbeats 400000 in
theorem eqEdgeS_same (v1 v2 : Value) (xs : List Ed) (w : World) (hv1 : SlE w cEd 4 v1 xs) (hv2 : SlE w cEd 4 v2 xs) :
    Calls Try.prog 74 #[v1, v2] w fun e w' => e = .returned (.bool true) ∧ Below w.heap.size w w' := by
  obtain ⟨A1, c1, rfl, hl1, hm1, hx1⟩ := hv1
  obtain ⟨A2, c2, rfl, hl2, hm2, hx2⟩ := hv2
  unfold maxLen at hm1 hm2
  go_enter Try.func74, Try.ntmps74
  go_wp2
  go_loopw [5] (fun i wr => ∃ (k : Nat) (u : World), k ≤ xs.length ∧ i = .int .i64 k ∧ wr = ext w u) (fun i _ => xs.length - (intOf i).toNat)
  case atStart => exact ⟨0, w, Nat.zero_le _, rfl, ext_self w⟩
  case round =>
    obtain ⟨k, u, hk, rfl, rfl⟩ := hrel
    by_cases hlt : k < xs.length
    · obtain ⟨b1, o1, rfl, -, hb1, hc1⟩ := hx1 k xs[k] (List.getElem?_eq_getElem hlt)
      obtain ⟨b2, o2, rfl, -, hb2, hc2⟩ := hx2 k xs[k] (List.getElem?_eq_getElem hlt)
      generalize xs[k] = x at hc1 hc2
      have c10 := hc1 0 _ rfl
      have c11 := hc1 1 _ rfl
      have c12 := hc1 2 _ rfl
      have c13 := hc1 3 _ rfl
      have c20 := hc2 0 _ rfl
      have c21 := hc2 1 _ rfl
      have c22 := hc2 2 _ rfl
      have c23 := hc2 3 _ rfl
      simp only [Nat.add_zero] at c10 c20
      clear hc1 hc2 hx1 hx2
      go_wp2
      refine wp_region_ext_lit (by kernel_rfl) (by kernel_rfl) ?_
      repeat (go_big_quiet_step ((go_at_call 124; exact Calls.ext_of (eqEdge_same x _))))
      refine wpQuiet_nil ?_
      intro _ hw'
      obtain ⟨u2, hw''⟩ := hw'
      subst hw''
      go_wp2
      go_roundw
      case rel =>
        obtain ⟨y, hy⟩ := ext_ext w u u2
        exact ⟨k + 1, y, by omega, by go_num, hy⟩
      case measure => simp [intOf]; omega
    · go_wp2
      go_ret
      exact ⟨rfl, ext_below _ _⟩
def mkEdge (k : Int) (n : Nat) : List Ed := (List.range n).map fun (i : Nat) => (k + 4 * (i : Int), k + 4 * (i : Int) + 1, k + 4 * (i : Int) + 1 + 1, k + 4 * (i : Int) + 1 + 1 + 1)
theorem mkEdge_len (k : Int) (n : Nat) : (mkEdge k n).length = n := by simp [mkEdge]
theorem mkEdge_succ (k : Int) (i : Nat) : mkEdge k (i + 1) = mkEdge k i ++ [(k + 4 * (i : Int), k + 4 * (i : Int) + 1, k + 4 * (i : Int) + 1 + 1, k + 4 * (i : Int) + 1 + 1 + 1)] := by simp [mkEdge, List.range_succ]
theorem mkEdge_at (k : Int) {n i : Nat} (h : i < n) : (mkEdge k n)[i]? = some (k + 4 * (i : Int), k + 4 * (i : Int) + 1, k + 4 * (i : Int) + 1 + 1, k + 4 * (i : Int) + 1 + 1 + 1) := by simp [mkEdge, h]
theorem flatEdge_len (l : List Ed) : (l.flatMap cEd).length = l.length * 4 := by
  induction l with
  | nil => rfl
  | cons x l ih => simp only [List.flatMap_cons, List.length_append, cEd_len, ih, List.length_cons]; omega
theorem markEdge_step (k : Int) (xs : List Ed) (i : Nat) (hi : i < xs.length) :
    ((((((mkEdge k i ++ xs.drop i).flatMap cEd).set (i * 4) (.int .i64 (k + 4 * (i : Int)))).set (i * 4 + 1) (.int .i64 (k + 4 * (i : Int) + 1))).set (i * 4 + 2) (.int .i64 (k + 4 * (i : Int) + 1 + 1))).set (i * 4 + 3) (.int .i64 (k + 4 * (i : Int) + 1 + 1 + 1))) = (mkEdge k (i + 1) ++ xs.drop (i + 1)).flatMap cEd := by
  rw [List.drop_eq_getElem_cons hi, mkEdge_succ]
  have hl : ((mkEdge k i).flatMap cEd).length = i * 4 := by rw [flatEdge_len, mkEdge_len]
  simp only [List.flatMap_append, List.flatMap_cons, List.flatMap_nil, List.append_nil, List.append_assoc]
  rw [List.set_append_right _ _ (by omega), List.set_append_right _ _ (by omega), List.set_append_right _ _ (by omega), List.set_append_right _ _ (by omega), hl]
  simp [cEd]
theorem toEdge_any (p : Ed) (w : World) :
    Calls Try.prog 118 #[.agg #[.int .i64 p.1, .int .i64 p.2.1, .int .i64 p.2.2.1, .int .i64 p.2.2.2]] w fun e w' => e = .returned (.agg #[.int .i64 p.1, .int .i64 p.2.1, .int .i64 p.2.2.1, .int .i64 p.2.2.2]) ∧ Below w.heap.size w w' := by
  obtain ⟨a0, a1, a2, a3⟩ := p
  go_enter Try.func118, Try.ntmps118
  go_wp2
  refine bodyPost_ret (v := .agg #[.int .i64 a0, .int .i64 a1, .int .i64 a2, .int .i64 a3]) (by simp [results, Try.results118, go_sem]) rfl ⟨rfl, ?_⟩
  repeat (first | exact Below.refl _ _ | refine Below.setCell ?_ (by simp <;> omega) _ | refine Below.alloc ?_ (by simp <;> omega) _)
theorem szEdgeS_any (A : Option Addr) (n c : Nat) (left : Int) (w : World) (hn : n ≤ maxLen) (h0 : 0 ≤ left) (h1 : left ≤ 1048576) :
    Calls Try.prog 63 #[.slice A n c, .int .i64 left] w fun e w' => e = .returned (.int .i64 (if left < n then -1 else left - n)) ∧ w' = w := by
  unfold maxLen at hn
  by_cases hlt : left < n
  · rw [if_pos hlt]
    go_enter Try.func63, Try.ntmps63
    go_wp2
    go_ret
    exact ⟨rfl, rfl⟩
  · rw [if_neg hlt]
    go_enter Try.func63, Try.ntmps63
    go_wp2
    go_ret
    exact ⟨rfl, rfl⟩
theorem elEdge : ElemOk Try.prog 46 144 (.agg #[.int .i64 0, .int .i64 0, .int .i64 0, .int .i64 0]) 4 32 := ⟨Try.underlying46, by kernel_rfl, rfl, by omega⟩
theorem toEdge_step (xs : List Ed) (i : Nat) (x : Ed) (hx : xs[i]? = some x) :
    ((((((xs.take i ++ List.replicate (xs.length - i) (0, 0, 0, 0)).flatMap cEd).set (i * 4) (.int .i64 x.1)).set (i * 4 + 1) (.int .i64 x.2.1)).set (i * 4 + 2) (.int .i64 x.2.2.1)).set (i * 4 + 3) (.int .i64 x.2.2.2)) = (xs.take (i + 1) ++ List.replicate (xs.length - (i + 1)) (0, 0, 0, 0)).flatMap cEd := by
  have hi := (List.getElem?_eq_some_iff.1 hx).1
  rw [take_snoc hx, show xs.length - i = (xs.length - (i + 1)) + 1 by omega, List.replicate_succ]
  have hl : ((xs.take i).flatMap cEd).length = i * 4 := by rw [flatEdge_len, List.length_take]; congr 1; omega
  simp only [List.flatMap_append, List.flatMap_cons, List.flatMap_nil, List.append_nil, List.append_assoc]
  rw [List.set_append_right _ _ (by omega), List.set_append_right _ _ (by omega), List.set_append_right _ _ (by omega), List.set_append_right _ _ (by omega), hl]
  simp [cEd]
set_option maxHeartbeats 1000000 in
theorem toEdgeS_any (v : Value) (xs : List Ed) (w : World) (hv : SlE w cEd 4 v xs) (hn : xs.length ≤ 1048576) :
    Calls Try.prog 68 #[v] w fun en w' => ∃ v', en = .returned v' ∧ Own w.heap.size w'.heap.size w' 144 cEd 4 v' xs ∧ Below w.heap.size w w' := by
  obtain ⟨A, c, rfl, hl, hm, hx⟩ := hv
  go_enter Try.func68, Try.ntmps68
  go_wp2_with (at_make; refine wpList_makeE (P := Try.prog) cEd (0, 0, 0, 0) elEdge rfl rfl rfl _ _ rfl w.heap.size xs.length _ (by rfl) (by rfl) rfl (by omega) (by unfold maxLen; omega) (Nat.le_refl _) ?_; intro w1 hrow1 hbel1)
  go_loopw [4] (fun ii wr => ∃ i : Nat, i ≤ xs.length ∧ ii = .int .i64 i ∧ wr.ownsRow w.heap.size 144 4 (.slice (some ⟨w.heap.size, 0, none⟩) xs.length xs.length) xs.length ((xs.take i ++ List.replicate (xs.length - i) (0, 0, 0, 0)).flatMap cEd) ∧ Below w.heap.size w wr) (fun ii _ => xs.length - (intOf ii).toNat)
  case atStart => exact ⟨0, Nat.zero_le _, rfl, by simpa using hrow1, hbel1⟩
  case round =>
    obtain ⟨i, hi', rfl, hrow, hbel⟩ := hrel
    by_cases hlt : i < xs.length
    · have hxi : xs[i]? = some xs[i] := List.getElem?_eq_getElem hlt
      obtain ⟨b, o, rfl, -, hb1, hc⟩ := hx i _ hxi
      have hstep := toEdge_step xs i _ hxi
      have hcur : (xs.take i ++ List.replicate (xs.length - i) (0, 0, 0, 0))[i]? = some (0, 0, 0, 0) := by
        rw [List.getElem?_append_right (by rw [List.length_take]; omega), List.getElem?_replicate, if_pos (by rw [List.length_take]; omega)]
      generalize xs[i] = x at hc hstep hxi
      have hs := hbel.size
      have c0 := (hbel.cell (p := ⟨b, o + i * 4 + 0, none⟩) hb1).trans (hc 0 _ rfl)
      have c1 := (hbel.cell (p := ⟨b, o + i * 4 + 1, none⟩) hb1).trans (hc 1 _ rfl)
      have c2 := (hbel.cell (p := ⟨b, o + i * 4 + 2, none⟩) hb1).trans (hc 2 _ rfl)
      have c3 := (hbel.cell (p := ⟨b, o + i * 4 + 3, none⟩) hb1).trans (hc 3 _ rfl)
      simp only [Nat.add_zero] at c0
      clear hc hx hxi hrow1 hbel1
      go_wp2_with fail
      refine (toEdge_any x _).mono ?_; rintro e w2 ⟨rfl, hb2⟩
      have hrow2 := ownsRow_below hrow hb2 (Nat.le_refl _)
      have d0 := World.ownsRow.cellAt hrow2 (i * 4) (by omega)
      have f0 := World.ownsRow.frozenAt hrow2 (i * 4)
      have e0 := flat_at cEd_len hcur 0 _ rfl
      simp only [Nat.add_zero] at e0
      rw [e0] at d0
      clear e0
      have d1 := World.ownsRow.cellAt hrow2 (i * 4 + 1) (by omega)
      have f1 := World.ownsRow.frozenAt hrow2 (i * 4 + 1)
      have e1 := flat_at cEd_len hcur 1 _ rfl
      rw [e1] at d1
      clear e1
      have d2 := World.ownsRow.cellAt hrow2 (i * 4 + 2) (by omega)
      have f2 := World.ownsRow.frozenAt hrow2 (i * 4 + 2)
      have e2 := flat_at cEd_len hcur 2 _ rfl
      rw [e2] at d2
      clear e2
      have d3 := World.ownsRow.cellAt hrow2 (i * 4 + 3) (by omega)
      have f3 := World.ownsRow.frozenAt hrow2 (i * 4 + 3)
      have e3 := flat_at cEd_len hcur 3 _ rfl
      rw [e3] at d3
      clear e3
      have hst := (World.ownsRow.stored (World.ownsRow.stored (World.ownsRow.stored (World.ownsRow.stored hrow2 (i * 4) (.int .i64 x.1)).1 (i * 4 + 1) (.int .i64 x.2.1)).1 (i * 4 + 2) (.int .i64 x.2.2.1)).1 (i * 4 + 3) (.int .i64 x.2.2.2)).1
      rw [hstep] at hst
      have HST := Lib.hid hst
      clear hst hstep hcur hrow hrow2
      go_wp2
      go_roundw
      case rel => exact ⟨i + 1, by omega, by go_num, HST.out, (((((hbel.trans (hb2.mono hs)).setCell (Nat.le_refl _) _).setCell (Nat.le_refl _) _).setCell (Nat.le_refl _) _).setCell (Nat.le_refl _) _)⟩
      case measure => simp [intOf]; omega
    · obtain rfl : i = xs.length := by omega
      go_wp2
      go_ret
      exact ⟨_, rfl, Own.of_row hrow rfl (by simp), hbel⟩
end Go.Proofs.Ytmlfkledhnlkeaa
