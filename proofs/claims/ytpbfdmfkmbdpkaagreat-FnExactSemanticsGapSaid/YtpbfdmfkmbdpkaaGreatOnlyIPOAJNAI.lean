/- Parts of the proof, joined into one text: HelpBool, HelpSS, Keep, Math, ProdM, View, Bits. -/
import Derived.Test.YtpbfdmfkmbdpkaaGreatOnlyBJIAJKDG
import Derived.Deep.RegionHeld
import Derived.Laws.BitsAll
import Derived.IntWalk
namespace Go.Proofs.YtpbfdmfkmbdpkaaGreat
set_option linter.unusedVariables false
set_option linter.unusedSimpArgs false
open Go.ChangeShapes Go.WideShapes Go.ChangeAt Go.RowKit
attribute [local go_sem] ext_cell ext_frozen ext_lt ext_lt1 ext_lt2 ext_lt3 ltn2 ltn3 ltn13 lts1 lts2 lts3
set_option maxHeartbeats 400000 in
theorem eqBoolS_same (v1 v2 : Value) (xs : List Bool) (w : World) (hv1 : SlE w cB 1 v1 xs) (hv2 : SlE w cB 1 v2 xs) :
    Calls Tryz.prog 38 #[v1, v2] w fun e w' => e = .returned (.bool true) ∧ Below w.heap.size w w' := by
  obtain ⟨A1, c1, rfl, hl1, hm1, hx1⟩ := hv1
  obtain ⟨A2, c2, rfl, hl2, hm2, hx2⟩ := hv2
  unfold maxLen at hm1 hm2
  go_enter Tryz.func38, Tryz.ntmps38
  go_wp2
  go_loopw [5] (fun i wr => ∃ (k : Nat) (u : World), k ≤ xs.length ∧ i = .int .i64 k ∧ wr = ext w u) (fun i _ => xs.length - (intOf i).toNat)
  case atStart => exact ⟨0, w, Nat.zero_le _, rfl, ext_self w⟩
  case round =>
    obtain ⟨k, u, hk, rfl, rfl⟩ := hrel
    by_cases hlt : k < xs.length
    · obtain ⟨b1, o1, rfl, -, hb1, hc1⟩ := hx1 k xs[k] (List.getElem?_eq_getElem hlt)
      obtain ⟨b2, o2, rfl, -, hb2, hc2⟩ := hx2 k xs[k] (List.getElem?_eq_getElem hlt)
      generalize xs[k] = x at hc1 hc2
      have c10 := hc1 0 _ rfl
      have c20 := hc2 0 _ rfl
      simp only [Nat.add_zero, Nat.mul_one] at c10 c20
      clear hc1 hc2 hx1 hx2
      go_wp2
      refine wp_region_ext_lit (by kernel_rfl) (by kernel_rfl) ?_
      repeat (go_big_quiet_step (fail))
      refine wpQuiet_nil ?_
      intro _ hw'
      obtain ⟨u2, hw''⟩ := hw'
      subst hw''
      go_wp2
      go_roundw
      case rel =>
        obtain ⟨y, hy⟩ := ext_ext w u u2
        exact ⟨k + 1, y, by omega, by go_num, hy⟩
      case measure => simp [intOf]; omega
    · go_wp2
      go_ret
      exact ⟨rfl, ext_below _ _⟩
def mkBool (k : Int) (n : Nat) : List Bool := (List.range n).map fun (i : Nat) => ((k + (i : Int)) % 3 == 0)
theorem mkBool_len (k : Int) (n : Nat) : (mkBool k n).length = n := by simp [mkBool]
theorem mkBool_succ (k : Int) (i : Nat) : mkBool k (i + 1) = mkBool k i ++ [((k + (i : Int)) % 3 == 0)] := by simp [mkBool, List.range_succ]
theorem flatBool_len (l : List Bool) : (l.flatMap cB).length = l.length * 1 := by
  induction l with
  | nil => rfl
  | cons x l ih => simp only [List.flatMap_cons, List.length_append, cB_len, ih, List.length_cons]; omega
theorem markBool_step (k : Int) (xs : List Bool) (i : Nat) (hi : i < xs.length) :
    (((mkBool k i ++ xs.drop i).flatMap cB).set (i) (.bool (((k + (i : Int)) % 3 == 0)))) = (mkBool k (i + 1) ++ xs.drop (i + 1)).flatMap cB := by
  rw [List.drop_eq_getElem_cons hi, mkBool_succ]
  have hl : ((mkBool k i).flatMap cB).length = i := by rw [flatBool_len, mkBool_len]; omega
  simp only [List.flatMap_append, List.flatMap_cons, List.flatMap_nil, List.append_nil, List.append_assoc]
  rw [List.set_append_right _ _ (by omega), hl]
  simp [cB]
set_option maxHeartbeats 4000000 in
theorem markBoolS_any (lo hi : Nat) (e : TypeId) (v : Value) (xs : List Bool) (k : Int) (w : World) (hv : Own lo hi w e cB 1 v xs) (hk : 0 ≤ k) (hb : k + 1 * xs.length ≤ 4611686018427387904) :
    Calls Tryz.prog 42 #[v, .int .i64 k] w fun en w' => en = .returned (.int .i64 (k + xs.length)) ∧ Own lo hi w' e cB 1 v (mkBool k xs.length) ∧ Only lo hi w w' := by
  obtain ⟨hr, hlt⟩ := hv
  have hr0 := hr
  obtain ⟨hl, hs⟩ := hr0
  rcases hs with ⟨rfl, hn⟩ | ⟨g, cap, cur, rfl, hg, hh, hnc, hcm, hsz, htk⟩
  · obtain rfl : xs = [] := List.eq_nil_of_length_eq_zero hn
    clear hl hr hn hlt
    go_enter Tryz.func42, Tryz.ntmps42
    go_wp2
    go_loopw [1, 5] (fun kk ii wr => kk = .int .i64 k ∧ ii = .int .i64 0 ∧ wr = w) (fun _ _ _ => 0)
    case atStart => exact ⟨rfl, rfl, rfl⟩
    case round =>
      obtain ⟨rfl, rfl, rfl⟩ := hrel
      go_wp2
      go_ret
      exact ⟨by simp, by simpa [mkBool] using Own.nil lo hi wr e cB 1, Only.refl _ _ _⟩
  · have hglt := hlt g rfl
    unfold maxLen at hcm
    have HL := Lib.hid hl
    clear hh htk hsz hlt hl
    go_enter Tryz.func42, Tryz.ntmps42
    go_wp2
    go_loopw [1, 5] (fun kk ii wr => ∃ i : Nat, i ≤ xs.length ∧ kk = .int .i64 (k + i) ∧ ii = .int .i64 i ∧ wr.ownsRow lo e 1 (.slice (some ⟨g, 0, none⟩) xs.length cap) xs.length ((mkBool k i ++ xs.drop i).flatMap cB) ∧ Only lo hi w wr) (fun _ ii _ => xs.length - (intOf ii).toNat)
    case atStart => exact ⟨0, Nat.zero_le _, by simp, rfl, by simpa [mkBool] using hr, Only.refl _ _ _⟩
    case round =>
      obtain ⟨i, hi', rfl, rfl, hrow, honly⟩ := hrel
      by_cases hlt : i < xs.length
      · have hrow0 := hrow
        have hc0 := World.ownsRow.cellAt hrow (i) (by omega)
        have hf0 := World.ownsRow.frozenAt hrow (i)
        have hst := (World.ownsRow.stored hrow0 (i) (.bool (((k + (i : Int)) % 3 == 0)))).1
        rw [markBool_step k xs i hlt] at hst
        have HST := Lib.hid hst
        have hxi : (mkBool k i ++ xs.drop i)[i]? = some xs[i] := by
          rw [List.getElem?_append_right (by simp [mkBool_len]), mkBool_len]; simp [hlt]
        have hcx0 : ((mkBool k i ++ xs.drop i).flatMap cB)[i]? = some (.bool xs[i]) := by
          have := flat_at cB_len hxi 0 _ rfl
          simpa using this
        rw [hcx0] at hc0
        clear hcx0 hxi hst hrow hrow0 hr
        go_wp2
        go_roundw
        case rel => exact ⟨i + 1, by omega, by go_num, by go_num, HST.out, (honly.setCell (.inl ⟨hg, hglt⟩) _)⟩
        case measure => simp [intOf]; omega
      · obtain rfl : i = xs.length := by omega
        have hown : Own lo hi wr e cB 1 (.slice (some ⟨g, 0, none⟩) xs.length cap) (mkBool k xs.length) := by
          refine ⟨?_, fun g' hg' => by cases hg'; exact hglt⟩
          rw [mkBool_len]
          simpa using hrow
        clear hrow hr
        go_wp2
        go_ret
        exact ⟨rfl, hown, honly⟩
theorem szBoolS_any (A : Option Addr) (n c : Nat) (left : Int) (w : World) (hn : n ≤ maxLen) (h0 : 0 ≤ left) (h1 : left ≤ 1048576) :
    Calls Tryz.prog 25 #[.slice A n c, .int .i64 left] w fun e w' => e = .returned (.int .i64 (if left < n then -1 else left - n)) ∧ w' = w := by
  unfold maxLen at hn
  by_cases hlt : left < n
  · rw [if_pos hlt]
    go_enter Tryz.func25, Tryz.ntmps25
    go_wp2
    go_ret
    exact ⟨rfl, rfl⟩
  · rw [if_neg hlt]
    go_enter Tryz.func25, Tryz.ntmps25
    go_wp2
    go_ret
    exact ⟨rfl, rfl⟩
theorem elBool : ElemOk Tryz.prog 26 4 (.bool false) 1 1 := ⟨Tryz.underlying26, by kernel_rfl, rfl, by omega⟩
theorem toBool_step (xs : List Bool) (i : Nat) (x : Bool) (hx : xs[i]? = some x) :
    (((xs.take i ++ List.replicate (xs.length - i) false).flatMap cB).set (i) (.bool x)) = (xs.take (i + 1) ++ List.replicate (xs.length - (i + 1)) false).flatMap cB := by
  have hi := (List.getElem?_eq_some_iff.1 hx).1
  rw [take_snoc hx, show xs.length - i = (xs.length - (i + 1)) + 1 by omega, List.replicate_succ]
  have hl : ((xs.take i).flatMap cB).length = i := by rw [flatBool_len, List.length_take]; omega
  simp only [List.flatMap_append, List.flatMap_cons, List.flatMap_nil, List.append_nil, List.append_assoc]
  rw [List.set_append_right _ _ (by omega), hl]
  simp [cB]
set_option maxHeartbeats 1000000 in
theorem toBoolS_any (v : Value) (xs : List Bool) (w : World) (hv : SlE w cB 1 v xs) (hn : xs.length ≤ 1048576) :
    Calls Tryz.prog 31 #[v] w fun en w' => ∃ v', en = .returned v' ∧ Own w.heap.size w'.heap.size w' 4 cB 1 v' xs ∧ Below w.heap.size w w' := by
  obtain ⟨A, c, rfl, hl, hm, hx⟩ := hv
  go_enter Tryz.func31, Tryz.ntmps31
  go_wp2_with (at_make; refine wpList_makeE (P := Tryz.prog) cB false elBool rfl rfl rfl _ _ rfl w.heap.size xs.length _ (by rfl) (by rfl) rfl (by omega) (by unfold maxLen; omega) (Nat.le_refl _) ?_; intro w1 hrow1 hbel1)
  go_loopw [4] (fun ii wr => ∃ i : Nat, i ≤ xs.length ∧ ii = .int .i64 i ∧ wr.ownsRow w.heap.size 4 1 (.slice (some ⟨w.heap.size, 0, none⟩) xs.length xs.length) xs.length ((xs.take i ++ List.replicate (xs.length - i) false).flatMap cB) ∧ Below w.heap.size w wr) (fun ii _ => xs.length - (intOf ii).toNat)
  case atStart => exact ⟨0, Nat.zero_le _, rfl, by simpa using hrow1, hbel1⟩
  case round =>
    obtain ⟨i, hi', rfl, hrow, hbel⟩ := hrel
    by_cases hlt : i < xs.length
    · have hxi : xs[i]? = some xs[i] := List.getElem?_eq_getElem hlt
      obtain ⟨b, o, rfl, -, hb1, hc⟩ := hx i _ hxi
      have hstep := toBool_step xs i _ hxi
      have hcur : (xs.take i ++ List.replicate (xs.length - i) false)[i]? = some false := by
        rw [List.getElem?_append_right (by rw [List.length_take]; omega), List.getElem?_replicate, if_pos (by rw [List.length_take]; omega)]
      generalize xs[i] = x at hc hstep hxi
      have hs := hbel.size
      have c0 := (hbel.cell (p := ⟨b, o + i * 1 + 0, none⟩) hb1).trans (hc 0 _ rfl)
      simp only [Nat.add_zero, Nat.mul_one] at c0
      clear hc hx hxi hrow1 hbel1
      have hrow2 := hrow
      have d0 := World.ownsRow.cellAt hrow2 (i) (by omega)
      have f0 := World.ownsRow.frozenAt hrow2 (i)
      have e0 := flat_at cB_len hcur 0 _ rfl
      simp only [Nat.mul_one, Nat.add_zero] at e0
      rw [e0] at d0
      clear e0
      have hst := (World.ownsRow.stored hrow2 (i) (.bool x)).1
      rw [hstep] at hst
      have HST := Lib.hid hst
      clear hst hstep hcur hrow hrow2
      go_wp2
      go_roundw
      case rel => exact ⟨i + 1, by omega, by go_num, HST.out, (hbel.setCell (Nat.le_refl _) _)⟩
      case measure => simp [intOf]; omega
    · obtain rfl : i = xs.length := by omega
      go_wp2
      go_ret
      exact ⟨_, rfl, Own.of_row hrow rfl (by simp), hbel⟩
end Go.Proofs.YtpbfdmfkmbdpkaaGreat
namespace Go.Proofs.YtpbfdmfkmbdpkaaGreat
set_option linter.unusedVariables false
set_option linter.unusedSimpArgs false
open Go.ChangeShapes Go.WideShapes Go.ChangeAt Go.RowKit
attribute [local go_sem] ext_cell ext_frozen ext_lt ext_lt1 ext_lt2 ext_lt3 ltn2 ltn3 ltn13 lts1 lts2 lts3
/-- rows of the call's own, one behind the other in memory -/
def RowsO (w : World) : Nat → Nat → List Value → List (List Int) → Prop
  | lo, hi, [], [] => lo ≤ hi
  | lo, hi, u :: us, xs :: xss => ∃ mid, lo ≤ mid ∧ Own lo mid w 3 cI 1 u xs ∧ RowsO w mid hi us xss
  | _, _, _, _ => False
theorem RowsO.le {w : World} : ∀ {us : List Value} {xss : List (List Int)} {lo hi : Nat}, RowsO w lo hi us xss → lo ≤ hi
  | [], [], _, _, h => h
  | _ :: _, _ :: _, _, _, ⟨mid, h1, _, h3⟩ => Nat.le_trans h1 (RowsO.le h3)
  | [], _ :: _, _, _, h => h.elim
  | _ :: _, [], _, _, h => h.elim
theorem RowsO.len {w : World} : ∀ {us : List Value} {xss : List (List Int)} {lo hi : Nat}, RowsO w lo hi us xss → us.length = xss.length
  | [], [], _, _, _ => rfl
  | _ :: _, _ :: _, _, _, ⟨_, _, _, h3⟩ => by simp [RowsO.len h3]
  | [], _ :: _, _, _, h => h.elim
  | _ :: _, [], _, _, h => h.elim
theorem RowsO.below {w w' : World} {B : Nat} (hb : Below B w w') : ∀ {us : List Value} {xss : List (List Int)} {lo hi : Nat}, RowsO w lo hi us xss → hi ≤ B → RowsO w' lo hi us xss
  | [], [], _, _, h, _ => h
  | _ :: _, _ :: _, _, _, ⟨mid, h1, h2, h3⟩, hB => ⟨mid, h1, h2.below hb (Nat.le_trans (RowsO.le h3) hB), RowsO.below hb h3 hB⟩
  | [], _ :: _, _, _, h, _ => h.elim
  | _ :: _, [], _, _, h, _ => h.elim
theorem RowsO.only {w w' : World} {l r : Nat} (hb : Only l r w w') : ∀ {us : List Value} {xss : List (List Int)} {lo hi : Nat}, RowsO w lo hi us xss → (hi ≤ l ∨ r ≤ lo) → RowsO w' lo hi us xss
  | [], [], _, _, h, _ => h
  | _ :: _, _ :: _, lo, hi, ⟨mid, h1, h2, h3⟩, ho => ⟨mid, h1, h2.only hb (by have := RowsO.le h3; omega), RowsO.only hb h3 (by omega)⟩
  | [], _ :: _, _, _, h, _ => h.elim
  | _ :: _, [], _, _, h, _ => h.elim
theorem RowsO.mono {w : World} : ∀ {us : List Value} {xss : List (List Int)} {lo hi lo' hi' : Nat}, RowsO w lo hi us xss → lo' ≤ lo → hi ≤ hi' → RowsO w lo' hi' us xss
  | [], [], _, _, _, _, h, h1, h2 => by simp only [RowsO] at h ⊢; omega
  | _ :: _, _ :: _, _, _, _, _, ⟨mid, h1, h2, h3⟩, g1, g2 => ⟨mid, by omega, h2.mono g1 (Nat.le_refl _), RowsO.mono h3 (Nat.le_refl _) g2⟩
  | [], _ :: _, _, _, _, _, h, _, _ => h.elim
  | _ :: _, [], _, _, _, _, h, _, _ => h.elim
theorem RowsO.snoc {w : World} {u : Value} {xs : List Int} {hi hi' : Nat} (h : Own hi hi' w 3 cI 1 u xs) (hh : hi ≤ hi') : ∀ {us : List Value} {xss : List (List Int)} {lo : Nat}, RowsO w lo hi us xss → RowsO w lo hi' (us ++ [u]) (xss ++ [xs])
  | [], [], _, h0 => ⟨hi', by simp only [RowsO] at h0; omega, h.mono (by simpa [RowsO] using h0) (Nat.le_refl _), Nat.le_refl _⟩
  | _ :: _, _ :: _, _, ⟨mid, h1, h2, h3⟩ => ⟨mid, h1, h2, RowsO.snoc h hh h3⟩
  | [], _ :: _, _, h0 => h0.elim
  | _ :: _, [], _, h0 => h0.elim
theorem RowsO.at_ {w : World} : ∀ {us : List Value} {xss : List (List Int)} {lo hi : Nat}, RowsO w lo hi us xss → ∀ (i : Nat) (u : Value) (xs : List Int), us[i]? = some u → xss[i]? = some xs → SlI lo hi w cI 1 u xs
  | [], [], _, _, _, _, _, _, h, _ => by simp at h
  | _ :: _, _ :: _, _, _, ⟨mid, h1, h2, h3⟩, i, u, xs, hu, hx => by
    cases i with
    | zero =>
      simp only [List.getElem?_cons_zero, Option.some.injEq] at hu hx
      subst hu hx
      exact (h2.sl cI_len).mono (Nat.le_refl _) (RowsO.le h3)
    | succ i => exact (RowsO.at_ h3 i u xs (by simpa using hu) (by simpa using hx)).mono h1 (Nat.le_refl _)
  | [], _ :: _, _, _, h, _, _, _, _, _ => h.elim
  | _ :: _, [], _, _, h, _, _, _, _, _ => h.elim
def SSO (lo hi : Nat) (w : World) (v : Value) (xss : List (List Int)) : Prop :=
  ∃ us mid, Own lo mid w 22 cV 1 v us ∧ RowsO w mid hi us xss ∧ lo ≤ mid
theorem SSO.view {lo hi : Nat} {w : World} {v : Value} {xss : List (List Int)} (h : SSO lo hi w v xss) : SSV lo hi w v xss := by
  obtain ⟨us, mid, h1, h2, h3⟩ := h
  exact ⟨us, (h1.sl cV_len).mono (Nat.le_refl _) h2.le, h2.len, fun i u xs hu hx => (h2.at_ i u xs hu hx).mono h3 (Nat.le_refl _)⟩
theorem SSO.below {lo hi : Nat} {w w' : World} {v : Value} {xss : List (List Int)} (h : SSO lo hi w v xss) {B : Nat} (hb : Below B w w') (hB : hi ≤ B) : SSO lo hi w' v xss := by
  obtain ⟨us, mid, h1, h2, h3⟩ := h
  exact ⟨us, mid, h1.below hb (Nat.le_trans h2.le hB), h2.below hb hB, h3⟩
theorem SSO.only {lo hi : Nat} {w w' : World} {v : Value} {xss : List (List Int)} (h : SSO lo hi w v xss) {l r : Nat} (hb : Only l r w w') (ho : hi ≤ l ∨ r ≤ lo) : SSO lo hi w' v xss := by
  obtain ⟨us, mid, h1, h2, h3⟩ := h
  have := h2.le
  exact ⟨us, mid, h1.only hb (by omega), h2.only hb (by omega), h3⟩
theorem SSO.mono {lo hi : Nat} {w : World} {v : Value} {xss : List (List Int)} (h : SSO lo hi w v xss) {lo' hi' : Nat} (g1 : lo' ≤ lo) (g2 : hi ≤ hi') : SSO lo' hi' w v xss := by
  obtain ⟨us, mid, h1, h2, h3⟩ := h
  exact ⟨us, mid, h1.mono g1 (Nat.le_refl _), h2.mono (Nat.le_refl _) g2, by omega⟩
def AuO (lo hi : Nat) (w : World) (v : Value) (a : Au) : Prop :=
  ∃ ac nx mid, v = .agg #[.int .i64 a.start, ac, nx] ∧ Own lo mid w 4 cB 1 ac a.accept ∧ SSO mid hi w nx a.next ∧ lo ≤ mid ∧ mid ≤ hi
theorem AuO.view {lo hi : Nat} {w : World} {v : Value} {a : Au} (h : AuO lo hi w v a) : AuV lo hi w v a := by
  obtain ⟨ac, nx, mid, rfl, h1, h2, h3, h4⟩ := h
  exact ⟨ac, nx, rfl, (h1.sl cB_len).mono (Nat.le_refl _) h4, h2.view.mono h3 (Nat.le_refl _)⟩
theorem AuO.below {lo hi : Nat} {w w' : World} {v : Value} {a : Au} (h : AuO lo hi w v a) {B : Nat} (hb : Below B w w') (hB : hi ≤ B) : AuO lo hi w' v a := by
  obtain ⟨ac, nx, mid, rfl, h1, h2, h3, h4⟩ := h
  exact ⟨ac, nx, mid, rfl, h1.below hb (by omega), h2.below hb hB, h3, h4⟩
def szRows : Int → List (List Int) → Int
  | left, [] => left
  | left, xs :: r => if left < xs.length then -1 else szRows (left - xs.length) r
def szSS (xss : List (List Int)) (left : Int) : Int := if left < xss.length then -1 else szRows (left - xss.length) xss
def szAu (a : Au) (left : Int) : Int := if left < a.accept.length then -1 else szSS a.next (left - a.accept.length)
theorem szRows_le : ∀ (xss : List (List Int)) (left : Int), 0 ≤ szRows left xss → szRows left xss ≤ left ∧ ∀ xs ∈ xss, (xs.length : Int) ≤ left
  | [], left, h => ⟨Int.le_refl _, by simp⟩
  | xs :: r, left, h => by
    simp only [szRows] at h ⊢
    split at h
    · omega
    · rename_i hlt
      rw [if_neg hlt]
      have := szRows_le r _ h
      refine ⟨by omega, fun ys hy => ?_⟩
      rcases List.mem_cons.1 hy with rfl | hy
      · omega
      · have := this.2 ys hy; omega
theorem szSS_le (xss : List (List Int)) (left : Int) (h : 0 ≤ szSS xss left) : szSS xss left ≤ left ∧ (xss.length : Int) ≤ left ∧ ∀ xs ∈ xss, (xs.length : Int) ≤ left := by
  unfold szSS at h ⊢
  split at h
  · omega
  · rename_i hlt
    rw [if_neg hlt]
    have := szRows_le xss _ h
    exact ⟨by omega, by omega, fun xs hx => by have := this.2 xs hx; omega⟩
theorem szAu_le (a : Au) (left : Int) (h : 0 ≤ szAu a left) : szAu a left ≤ left ∧ (a.accept.length : Int) ≤ left ∧ (a.next.length : Int) ≤ left ∧ ∀ xs ∈ a.next, (xs.length : Int) ≤ left := by
  unfold szAu at h ⊢
  split at h
  · omega
  · rename_i hlt
    rw [if_neg hlt]
    have := szSS_le _ _ h
    exact ⟨by omega, by omega, by omega, fun xs hx => by have := this.2.2 xs hx; omega⟩
set_option maxHeartbeats 1000000 in
theorem szIntSS_any (v : Value) (xss : List (List Int)) (left : Int) (w : World) (hv : SSV 0 w.heap.size w v xss) (h0 : 0 ≤ left) (h1 : left ≤ 1048576) :
    Calls Tryz.prog 26 #[v, .int .i64 left] w fun e w' => e = .returned (.int .i64 (szSS xss left)) ∧ Below w.heap.size w w' := by
  obtain ⟨vs, ⟨A, c, rfl, hl, hm, hx⟩, hlen, hrows⟩ := hv
  rw [hlen] at hl ⊢
  have HL := Lib.hid hlen
  clear hlen
  unfold maxLen at hm
  by_cases hlt : left < xss.length
  · rw [szSS, if_pos hlt]
    go_enter Tryz.func26, Tryz.ntmps26
    go_wp2
    go_ret
    exact ⟨rfl, Below.refl _ _⟩
  · rw [szSS, if_neg hlt]
    go_enter Tryz.func26, Tryz.ntmps26
    go_wp2
    go_loopw [1, 5] (fun ll ii wr => ∃ (i : Nat) (cur : Int), i ≤ xss.length ∧ 0 ≤ cur ∧ cur ≤ 1048576 ∧ ll = .int .i64 cur ∧ ii = .int .i64 i ∧ szRows (left - xss.length) xss = szRows cur (xss.drop i) ∧ wr = w) (fun _ ii _ => xss.length - (intOf ii).toNat)
    case atStart => exact ⟨0, _, Nat.zero_le _, by omega, by omega, rfl, rfl, rfl, rfl⟩
    case round =>
      obtain ⟨i, cur, hi, hc0, hc1, rfl, rfl, hsz, rfl⟩ := hrel
      have HS := Lib.hid hsz
      clear hsz
      by_cases hlt : i < xss.length
      · obtain ⟨u, hu⟩ : ∃ u, vs[i]? = some u := ⟨_, List.getElem?_eq_getElem (by have := HL.out; omega)⟩
        obtain ⟨b, o, rfl, -, hb1, hc⟩ := hx i u hu
        have hrow := hrows i u _ hu (List.getElem?_eq_getElem hlt)
        have hdrop := List.drop_eq_getElem_cons hlt
        generalize xss[i] = xs at hrow hdrop
        obtain ⟨A', c', rfl, hl', hm', -⟩ := hrow
        have c0 := hc 0 _ rfl
        simp only [Nat.mul_one, Nat.add_zero] at c0
        have hn := szIntS_any A' xs.length c' cur
        have HD := Lib.hid hdrop
        have HU := Lib.hid hu
        clear hc hx hrows hdrop hu
        by_cases g1 : cur < xs.length
        · rw [if_pos g1] at hn
          have HN := Lib.hid hn
          clear hn
          go_wp2_with fail
          refine (HN.out _ (by omega) hc0 hc1).mono ?_; rintro e w1 ⟨rfl, rfl⟩
          go_wp2_with fail
          go_ret
          exact ⟨ret_int (by rw [HS.out, HD.out, szRows, if_pos (by omega)]), Below.refl _ _⟩
        · rw [if_neg g1] at hn
          have HN := Lib.hid hn
          clear hn
          go_wp2_with fail
          refine (HN.out _ (by omega) hc0 hc1).mono ?_; rintro e w1 ⟨rfl, rfl⟩
          go_wp2_with fail
          go_roundw
          case rel => exact ⟨i + 1, _, by omega, by omega, by omega, rfl, by go_num, by rw [HS.out, HD.out, szRows, if_neg (by omega)], trivial⟩
          case measure => simp [intOf]; omega
      · obtain rfl : i = xss.length := by omega
        go_wp2
        go_ret
        exact ⟨ret_int (by rw [HS.out]; simp [szRows]), Below.refl _ _⟩
set_option maxHeartbeats 1000000 in
theorem szAutomaton_any (v : Value) (a : Au) (left : Int) (w : World) (hv : AuV 0 w.heap.size w v a) (h0 : 0 ≤ left) (h1 : left ≤ 1048576) :
    Calls Tryz.prog 6 #[v, .int .i64 left] w fun e w' => e = .returned (.int .i64 (if szAu a left < 0 then -1 else szAu a left)) ∧ Below w.heap.size w w' := by
  obtain ⟨ac, nx, rfl, ⟨A1, c1, rfl, hl1, hm1, -⟩, hnx⟩ := hv
  have hc := szBoolS_any A1 a.accept.length c1 left
  by_cases g1 : left < a.accept.length
  · rw [szAu, if_pos g1] at *
    have HC := Lib.hid hc
    clear hc
    go_enter Tryz.func6, Tryz.ntmps6
    go_wp2_with fail
    refine (HC.out _ (by omega) h0 h1).mono ?_; rintro e w1 ⟨rfl, rfl⟩
    go_wp2
    go_ret
    exact ⟨rfl, (Below.refl _ _).alloc (Nat.le_refl _) _⟩
  · rw [szAu, if_neg g1] at *
    have HC := Lib.hid hc
    clear hc
    have hb0 : ∀ o, Below w.heap.size w (w.alloc o) := fun o => (Below.refl _ _).alloc (Nat.le_refl _) o
    have hd := fun W (hW : Below w.heap.size w W) => szIntSS_any nx a.next (left - a.accept.length) W (hnx.keep hW) (by omega) (by omega)
    have HD := Lib.hid hd
    clear hd
    by_cases g2 : szSS a.next (left - a.accept.length) < 0
    · rw [if_pos g2]
      go_enter Tryz.func6, Tryz.ntmps6
      go_wp2_with fail
      refine (HC.out _ (by omega) h0 h1).mono ?_; rintro e w1 ⟨rfl, rfl⟩
      go_wp2_with fail
      refine (HD.out _ (hb0 _)).mono ?_; rintro e w1 ⟨rfl, hb1⟩
      go_wp2_with fail
      go_ret
      exact ⟨rfl, below_trans (hb0 _) hb1⟩
    · rw [if_neg g2]
      go_enter Tryz.func6, Tryz.ntmps6
      go_wp2_with fail
      refine (HC.out _ (by omega) h0 h1).mono ?_; rintro e w1 ⟨rfl, rfl⟩
      go_wp2_with fail
      refine (HD.out _ (hb0 _)).mono ?_; rintro e w1 ⟨rfl, hb1⟩
      go_wp2_with fail
      go_ret
      exact ⟨rfl, below_trans (hb0 _) hb1⟩
theorem elSS : ElemOk Tryz.prog 27 22 (.slice none 0 0) 1 24 := ⟨Tryz.underlying27, by kernel_rfl, rfl, by omega⟩
theorem flatV (l : List Value) : l.flatMap cV = l := by
  induction l with
  | nil => rfl
  | cons x l ih => rw [List.flatMap_cons, ih]; rfl
set_option maxHeartbeats 1000000 in
theorem toIntSS_any (v : Value) (xss : List (List Int)) (w : World) (hv : SSV 0 w.heap.size w v xss) (hn : xss.length ≤ 1048576) (hm : ∀ xs ∈ xss, xs.length ≤ 1048576) :
    Calls Tryz.prog 32 #[v] w fun en w' => ∃ v', en = .returned v' ∧ SSO w.heap.size w'.heap.size w' v' xss ∧ Below w.heap.size w w' := by
  obtain ⟨vs, ⟨A, c, rfl, hl, hmx, hx⟩, hlen, hrows⟩ := hv
  rw [hlen] at hl ⊢
  have HL := Lib.hid hlen
  clear hlen
  go_enter Tryz.func32, Tryz.ntmps32
  go_wp2_with (at_make; refine wpList_makeE (P := Tryz.prog) cV (.slice none 0 0) elSS rfl rfl rfl _ _ rfl w.heap.size xss.length _ (by rfl) (by rfl) rfl (by omega) (by unfold maxLen; omega) (Nat.le_refl _) ?_; intro w1 hrow1 hbel1)
  have hs1 : w.heap.size + 1 ≤ w1.heap.size := (hrow1.lt w.heap.size rfl).2
  go_loopw [4] (fun ii wr => ∃ (i : Nat) (us : List Value), i ≤ xss.length ∧ us.length = i ∧ ii = .int .i64 i ∧ wr.ownsRow w.heap.size 22 1 (.slice (some ⟨w.heap.size, 0, none⟩) xss.length xss.length) xss.length (us ++ List.replicate (xss.length - i) (.slice none 0 0)) ∧ RowsO wr (w.heap.size + 1) wr.heap.size us (xss.take i) ∧ Below w.heap.size w wr) (fun ii _ => xss.length - (intOf ii).toNat)
  case atStart => exact ⟨0, [], Nat.zero_le _, rfl, rfl, by simpa [flatV] using hrow1, hs1, hbel1⟩
  case round =>
    obtain ⟨i, us, hi', hus, rfl, hrow, hro, hbel⟩ := hrel
    by_cases hlt : i < xss.length
    · obtain ⟨u, hu⟩ : ∃ u, vs[i]? = some u := ⟨_, List.getElem?_eq_getElem (by have := HL.out; omega)⟩
      obtain ⟨b, o, rfl, -, hb1, hc⟩ := hx i u hu
      have hxi : xss[i]? = some xss[i] := List.getElem?_eq_getElem hlt
      have hvi := hrows i u _ hu hxi
      have hlx := hm _ (List.getElem_mem hlt)
      generalize xss[i] = xs at hvi hxi hlx
      have c0 := (hbel.cell (p := ⟨b, o + i * 1 + 0, none⟩) hb1).trans (hc 0 _ rfl)
      simp only [Nat.mul_one, Nat.add_zero] at c0
      have hs := hbel.size
      have hvi := SlE.keep hvi hbel
      have HX := Lib.hid hxi
      have HU := Lib.hid hu
      have HS := Lib.hid hus
      clear hc hx hxi hu hus hrow1 hbel1 hs1 hrows
      go_wp2_with fail
      refine (toIntS_any u xs _ hvi hlx).mono ?_
      rintro e w2 ⟨v2, rfl, ho2, hb2⟩
      obtain ⟨A2, n2, c2, rfl⟩ := ho2.shape
      have hs2 := hb2.size
      have hrow2 := ownsRow_below hrow hb2 (Nat.le_refl _)
      have d0 := World.ownsRow.cellAt hrow2 i (by omega)
      have f0 := World.ownsRow.frozenAt hrow2 i
      have e0 : (us ++ List.replicate (xss.length - i) (Value.slice none 0 0))[i]? = some (.slice none 0 0) := by
        rw [List.getElem?_append_right (by rw [HS.out]; exact Nat.le_refl _), List.getElem?_replicate, if_pos (by have := HS.out; omega)]
      rw [e0] at d0
      have hst := (World.ownsRow.stored hrow2 i (.slice A2 n2 c2)).1
      have hset : (us ++ List.replicate (xss.length - i) (Value.slice none 0 0)).set i (.slice A2 n2 c2) = (us ++ [.slice A2 n2 c2]) ++ List.replicate (xss.length - (i + 1)) (.slice none 0 0) := by
        rw [List.set_append_right _ _ (by rw [HS.out]; exact Nat.le_refl _), HS.out, Nat.sub_self, show xss.length - i = (xss.length - (i + 1)) + 1 by omega, List.replicate_succ]
        simp
      rw [hset] at hst
      have hpos := (hrow.lt w.heap.size rfl).2
      have hro2 : RowsO (w2.setCell ⟨w.heap.size, i, none⟩ (.slice A2 n2 c2)) (w.heap.size + 1) (w2.setCell ⟨w.heap.size, i, none⟩ (.slice A2 n2 c2)).heap.size (us ++ [.slice A2 n2 c2]) (xss.take (i + 1)) := by
        rw [take_snoc HX.out]
        have h1 := (hro.below hb2 (Nat.le_refl _)).snoc ho2 hs2
        have h2 := h1.only ((Only.refl w.heap.size (w.heap.size + 1) w2).setCell (p := ⟨w.heap.size, i, none⟩) (.inl (by simp <;> omega)) (.slice A2 n2 c2)) (.inr (Nat.le_refl _))
        simpa using h2
      have HST := Lib.hid hst
      have HR := Lib.hid hro2
      have hu2 : (us ++ [Value.slice A2 n2 c2]).length = i + 1 := by simp [HS.out]
      have HU2 := Lib.hid hu2
      clear hst hset e0 hrow hrow2 hro hro2 hu2
      go_wp2
      go_roundw
      case rel => exact ⟨i + 1, _, by omega, HU2.out, by go_num, HST.out, HR.out, (hbel.trans (hb2.mono hs)).setCell (Nat.le_refl _) _⟩
      case measure => simp [intOf]; omega
    · obtain rfl : i = xss.length := by omega
      have hres : SSO w.heap.size wr.heap.size wr (.slice (some ⟨w.heap.size, 0, none⟩) xss.length xss.length) xss := by
        refine ⟨us, w.heap.size + 1, ⟨?_, fun g hg => by cases hg; exact Nat.lt_succ_self _⟩, by simpa using hro, by omega⟩
        rw [flatV, hus]
        simpa using hrow
      clear hrow hus
      go_wp2
      go_ret
      exact ⟨_, rfl, hres, hbel⟩
def szAuD (a : Au) (left : Int) : Int := if szAu a left < 0 then -1 else szAu a left
theorem szAuD_le (a : Au) (left : Int) (hl : left ≤ 1048576) (h : ¬ szAuD a left < 0) : a.accept.length ≤ 1048576 ∧ a.next.length ≤ 1048576 ∧ (∀ xs ∈ a.next, xs.length ≤ 1048576) ∧ 0 ≤ szAuD a left ∧ szAuD a left ≤ left := by
  unfold szAuD at h ⊢
  split at h
  · omega
  · rename_i hx
    obtain ⟨h0, h1, h2, h3⟩ := szAu_le a left (by omega)
    rw [if_neg hx]
    exact ⟨by omega, by omega, fun xs hxs => by have := h3 xs hxs; omega, by omega, h0⟩
theorem szAutomatonD_any (v : Value) (a : Au) (left : Int) (w : World) (hv : AuV 0 w.heap.size w v a) (h0 : 0 ≤ left) (h1 : left ≤ 1048576) :
    Calls Tryz.prog 6 #[v, .int .i64 left] w fun e w' => e = .returned (.int .i64 (szAuD a left)) ∧ Below w.heap.size w w' := szAutomaton_any v a left w hv h0 h1
set_option maxHeartbeats 1000000 in
theorem toAutomaton_any (v : Value) (a : Au) (w : World) (hv : AuV 0 w.heap.size w v a) (h1 : a.accept.length ≤ 1048576) (h2 : a.next.length ≤ 1048576) (h3 : ∀ xs ∈ a.next, xs.length ≤ 1048576) :
    Calls Tryz.prog 9 #[v] w fun e w' => ∃ v', e = .returned v' ∧ AuO w.heap.size w'.heap.size w' v' a ∧ Below w.heap.size w w' := by
  obtain ⟨ac, nx, rfl, hac, hnx⟩ := hv
  obtain ⟨st, accept, next⟩ := a
  go_enter Tryz.func9, Tryz.ntmps9
  go_wp2_with fail
  refine (toBoolS_any ac accept _ ?_ h1).mono ?_
  · exact SlE.keep hac (by repeat (first | exact Below.refl _ _ | refine Below.setCell ?_ (by simp <;> omega) _ | refine Below.alloc ?_ (by simp <;> omega) _))
  rintro e w1 ⟨v1, rfl, ho1', hb1⟩
  have b0 := (((Blk.new w _ _ w.heap.size rfl).alloc _).alloc _).keep hb1
  have b1 := ((Blk.new (w.alloc _) _ _ (w.heap.size + 1) (by simp)).alloc _).keep hb1
  have b2 := (Blk.new ((w.alloc _).alloc _) _ _ (w.heap.size + 1 + 1) (by simp)).keep hb1
  have o1 : Only w.heap.size (w.heap.size + 3) w w1 := (((Only.refl _ _ _).alloc _).alloc _ |>.alloc _).trans (Only.of_below hb1 _ _)
  have ho1 : Own (w.heap.size + 3) w1.heap.size w1 _ cB 1 v1 accept := ho1'.mono (by simp) (Nat.le_refl _)
  clear ho1'
  obtain ⟨A1, n1, c1, rfl⟩ := ho1.shape
  have s1 : w.heap.size + 3 ≤ w1.heap.size := by have := hb1.size; simpa using this
  clear hb1
  have x0 : w1.cell? ⟨w.heap.size, 2, none⟩ = some nx := b0.cell 2
  have x2 : w1.cell? ⟨w.heap.size + 1 + 1, 1, none⟩ = some (.slice none 0 0) := b2.cell 1
  have y2 := b2.frozen 1
  go_wp2_with fail
  refine (toIntSS_any nx next _ ?_ h2 h3).mono ?_
  · exact hnx.keep ((o1.setCell (.inl (by simp <;> omega)) _).below (Nat.le_refl _) (Nat.le_refl _))
  rintro e w2 ⟨v2, rfl, ho2', hb2⟩
  clear x0 x2 y2
  have o2 := (o1.setCell (p := ⟨w.heap.size + 1 + 1, 1, none⟩) (.inl (by simp <;> omega)) (.slice A1 n1 c1)).trans (Only.of_below hb2 _ _)
  have b1 := (b1.far (p := ⟨w.heap.size + 1 + 1, 1, none⟩) (by simp) (.slice A1 n1 c1)).keep hb2
  have b2 := (b2.set_ 1 (.slice A1 n1 c1)).keep hb2
  have s2 : w1.heap.size ≤ w2.heap.size := by have := hb2.size; simpa using this
  have ho2 : SSO w1.heap.size w2.heap.size w2 v2 next := ho2'.mono (by simp) (Nat.le_refl _)
  have ho1 := (ho1.only ((Only.refl w.heap.size (w.heap.size + 3) _).setCell (p := ⟨w.heap.size + 1 + 1, 1, none⟩) (.inl (by simp <;> omega)) (.slice A1 n1 c1)) (.inr (Nat.le_refl _))).below hb2 (by simp)
  obtain ⟨A2, n2, c2, rfl⟩ : ∃ A n c, v2 = .slice A n c := by
    obtain ⟨us, mid, h1, _⟩ := ho2
    exact h1.shape
  have x5 : w2.cell? ⟨w.heap.size + 1, 0, none⟩ = some (.int .i64 0) := b1.cell 0
  have x1 : w2.cell? ⟨w.heap.size + 1, 1, none⟩ = some (.slice none 0 0) := b1.cell 1
  have x2 : w2.cell? ⟨w.heap.size + 1, 2, none⟩ = some (.slice none 0 0) := b1.cell 2
  have x3 : w2.cell? ⟨w.heap.size + 1 + 1, 0, none⟩ = some (.int .i64 st) := b2.cell 0
  have x4 : w2.cell? ⟨w.heap.size + 1 + 1, 1, none⟩ = some (.slice A1 n1 c1) := b2.cell 1
  have x6 : w2.cell? ⟨w.heap.size + 1 + 1, 2, none⟩ = some (.slice none 0 0) := b2.cell 2
  have y1 := b1.frozen 0
  have y2 := b1.frozen 1
  have y3 := b1.frozen 2
  have y4 := b2.frozen 2
  clear ho2' hb2 hac hnx b0 b1 b2
  go_wp2_with fail
  have oz : Only w.heap.size (w.heap.size + 3) w2 _ := ((((Only.refl _ _ w2).setCell (p := ⟨w.heap.size + 1 + 1, 2, none⟩) (.inl (by simp <;> omega)) (.slice A2 n2 c2)).setCell (p := ⟨w.heap.size + 1, 0, none⟩) (.inl (by simp <;> omega)) (.int .i64 st)).setCell (p := ⟨w.heap.size + 1, 1, none⟩) (.inl (by simp <;> omega)) (.slice A1 n1 c1)).setCell (p := ⟨w.heap.size + 1, 2, none⟩) (.inl (by simp <;> omega)) (.slice A2 n2 c2)
  refine bodyPost_ret (v := .agg #[.int .i64 st, .slice A1 n1 c1, .slice A2 n2 c2]) (by simp [results, Tryz.results9, go_sem, x1, x2, x5]) rfl ⟨_, rfl, ⟨_, _, w1.heap.size, rfl, (ho1.only oz (.inr (Nat.le_refl _))).mono (by omega) (Nat.le_refl _), (ho2.only oz (.inr s1)).mono (Nat.le_refl _) (by simp), by omega, by simp <;> omega⟩, (o2.trans oz).below (Nat.le_refl _) (Nat.le_refl _)⟩
set_option maxHeartbeats 1000000 in
theorem eqIntSS_same (v1 v2 : Value) (xss : List (List Int)) (w : World) (hv1 : SSV 0 w.heap.size w v1 xss) (hv2 : SSV 0 w.heap.size w v2 xss) :
    Calls Tryz.prog 39 #[v1, v2] w fun e w' => e = .returned (.bool true) ∧ Below w.heap.size w w' := by
  obtain ⟨us1, ⟨A1, c1, rfl, hl1, hm1, hx1⟩, hlen1, hr1⟩ := hv1
  obtain ⟨us2, ⟨A2, c2, rfl, hl2, hm2, hx2⟩, hlen2, hr2⟩ := hv2
  rw [hlen1] at hl1 ⊢
  rw [hlen2] at hl2 ⊢
  unfold maxLen at hm1 hm2
  have HL1 := Lib.hid hlen1
  have HL2 := Lib.hid hlen2
  clear hlen1 hlen2
  go_enter Tryz.func39, Tryz.ntmps39
  go_wp2
  go_loopw [5] (fun i wr => ∃ (k : Nat) (u : World), k ≤ xss.length ∧ i = .int .i64 k ∧ wr = ext w u) (fun i _ => xss.length - (intOf i).toNat)
  case atStart => exact ⟨0, w, Nat.zero_le _, rfl, ext_self w⟩
  case round =>
    obtain ⟨k, u, hk, rfl, rfl⟩ := hrel
    by_cases hlt : k < xss.length
    · have hxk := List.getElem?_eq_getElem hlt
      obtain ⟨a1, ha1⟩ : ∃ a, us1[k]? = some a := ⟨_, List.getElem?_eq_getElem (by have := HL1.out; omega)⟩
      obtain ⟨a2, ha2⟩ : ∃ a, us2[k]? = some a := ⟨_, List.getElem?_eq_getElem (by have := HL2.out; omega)⟩
      obtain ⟨b1, o1, rfl, -, hb1, hc1⟩ := hx1 k _ ha1
      obtain ⟨b2, o2, rfl, -, hb2, hc2⟩ := hx2 k _ ha2
      have g1 := hr1 k _ _ ha1 hxk
      have g2 := hr2 k _ _ ha2 hxk
      generalize xss[k] = x at g1 g2
      have c10 := hc1 0 _ rfl
      have c20 := hc2 0 _ rfl
      simp only [Nat.add_zero, Nat.mul_one] at c10 c20
      clear hc1 hc2 hx1 hx2 hr1 hr2 hxk ha1 ha2
      have g1 := SlE.keep g1 (ext_below w u)
      have g2 := SlE.keep g2 (ext_below w u)
      go_wp2
      refine wp_region_ext_lit (by kernel_rfl) (by kernel_rfl) ?_
      repeat (go_big_quiet_step ((go_at_call 36; exact Calls.ext_of (eqIntS_same a1 a2 x _ (SlE.ext g1 _) (SlE.ext g2 _)))))
      refine wpQuiet_nil ?_
      intro _ hw'
      obtain ⟨u2, hw''⟩ := hw'
      subst hw''
      go_wp2
      go_roundw
      case rel =>
        obtain ⟨y, hy⟩ := ext_ext w u u2
        exact ⟨k + 1, y, by omega, by go_num, hy⟩
      case measure => simp [intOf]; omega
    · go_wp2
      go_ret
      exact ⟨rfl, ext_below _ _⟩
set_option maxHeartbeats 1000000 in
theorem eqAutomaton_same (v1 v2 : Value) (a : Au) (w : World) (hv1 : AuV 0 w.heap.size w v1 a) (hv2 : AuV 0 w.heap.size w v2 a) :
    Calls Tryz.prog 13 #[v1, v2] w fun e w' => e = .returned (.bool true) ∧ Below w.heap.size w w' := by
  obtain ⟨vs1, es1, rfl, hvs1, hes1⟩ := hv1
  obtain ⟨vs2, es2, rfl, hvs2, hes2⟩ := hv2
  obtain ⟨st, accept, next⟩ := a
  have hb0 : Below w.heap.size w ((w.alloc (.cells #[.int .i64 st, vs1, es1] 38)).alloc (.cells #[.int .i64 st, vs2, es2] 38)) := ((Below.refl _ _).alloc (Nat.le_refl _) _).alloc (by simp) _
  go_enter Tryz.func13, Tryz.ntmps13
  go_wp2_with fail
  refine (eqBoolS_same vs1 vs2 accept _ (SlE.keep hvs1 hb0) (SlE.keep hvs2 hb0)).mono ?_
  rintro e w1 ⟨rfl, hb1⟩
  have b0 := ((Blk.new w _ _ w.heap.size rfl).alloc _).keep hb1
  have b1 := (Blk.new (w.alloc _) _ _ (w.heap.size + 1) (by simp)).keep hb1
  have hb2 := below_trans hb0 hb1
  have x0 : w1.cell? ⟨w.heap.size, 2, none⟩ = some es1 := b0.cell 2
  have x1 : w1.cell? ⟨w.heap.size + 1, 2, none⟩ = some es2 := b1.cell 2
  clear hb0 hb1 b0 b1
  go_wp2_with fail
  refine (eqIntSS_same es1 es2 next _ (hes1.keep hb2) (hes2.keep hb2)).mono ?_
  rintro e w2 ⟨rfl, hb3⟩
  go_wp2_with fail
  go_ret
  exact ⟨rfl, below_trans hb2 hb3⟩
/-- what 'markIntSS' writes -/
def mkSS : Int → List (List Int) → List (List Int)
  | _, [] => []
  | k, xs :: r => mkInt k xs.length :: mkSS (k + xs.length) r
def sumLen : List (List Int) → Nat
  | [] => 0
  | xs :: r => xs.length + sumLen r
theorem sumLen_app : ∀ (l r : List (List Int)), sumLen (l ++ r) = sumLen l + sumLen r
  | [], r => by simp [sumLen]
  | x :: l, r => by simp only [List.cons_append, sumLen, sumLen_app l r]; omega
theorem mkSS_app : ∀ (l r : List (List Int)) (k : Int), mkSS k (l ++ r) = mkSS k l ++ mkSS (k + sumLen l) r
  | [], r, k => by simp [mkSS, sumLen]
  | x :: l, r, k => by
    simp only [List.cons_append, mkSS, mkSS_app l r, sumLen]
    congr 3
    omega
theorem sumLen_take_le : ∀ (l : List (List Int)) (i : Nat), sumLen (l.take i) ≤ sumLen l
  | [], i => by simp [sumLen]
  | x :: l, 0 => by simp [sumLen]
  | x :: l, i + 1 => by simp only [List.take_succ_cons, sumLen]; have := sumLen_take_le l i; omega
set_option maxHeartbeats 1000000 in
theorem markIntSS_any (lo hi : Nat) (v : Value) (xss : List (List Int)) (k : Int) (w : World) (hv : SSO lo hi w v xss) (hk : 0 ≤ k) (hb : k + sumLen xss ≤ 4611686018427387904) (hn : xss.length ≤ 1048576) (hhi : hi ≤ w.heap.size) :
    Calls Tryz.prog 43 #[v, .int .i64 k] w fun en w' => en = .returned (.int .i64 (k + sumLen xss)) ∧ SSO lo hi w' v (mkSS k xss) ∧ Only lo hi w w' := by
  obtain ⟨us, mid, hown, hro, hmid⟩ := hv
  have hul := hro.len
  have hle := hro.le
  obtain ⟨A, c, rfl, hl, hm, hx⟩ := hown.sl cV_len
  rw [hul] at hown hl ⊢
  have HU := Lib.hid hul
  clear hul
  unfold maxLen at hm
  have hz := fun i => sumLen_take_le xss i
  go_enter Tryz.func43, Tryz.ntmps43
  go_wp2
  go_loopw [1, 5] (fun kk ii wr => ∃ i m : Nat, i ≤ xss.length ∧ kk = .int .i64 (k + sumLen (xss.take i)) ∧ ii = .int .i64 i ∧ RowsO wr mid m (us.take i) (mkSS k (xss.take i)) ∧ RowsO wr m hi (us.drop i) (xss.drop i) ∧ Only mid hi w wr) (fun _ ii _ => xss.length - (intOf ii).toNat)
  case atStart => exact ⟨0, mid, Nat.zero_le _, by simp [sumLen], rfl, by simp [RowsO, mkSS], by simpa using hro, Only.refl _ _ _⟩
  case round =>
    obtain ⟨i, m, hi', rfl, rfl, hr1, hr2, honly⟩ := hrel
    by_cases hlt : i < xss.length
    · obtain ⟨u, hu⟩ : ∃ u, us[i]? = some u := ⟨_, List.getElem?_eq_getElem (by have := HU.out; omega)⟩
      have hud := (List.getElem?_eq_some_iff.1 hu)
      obtain ⟨hul, hue⟩ := hud
      have hd1 := List.drop_eq_getElem_cons hul
      have hd2 := List.drop_eq_getElem_cons hlt
      have hxi : xss[i]? = some xss[i] := List.getElem?_eq_getElem hlt
      rw [hue] at hd1
      have hz1 := hz i
      have hz2 := hz (i + 1)
      have ht1 : us.take (i + 1) = us.take i ++ [u] := take_snoc hu
      have ht2 : xss.take (i + 1) = xss.take i ++ [xss[i]] := take_snoc hxi
      generalize xss[i] = xs at hd2 ht2 hxi
      rw [hd1, hd2] at hr2
      obtain ⟨m2, hm12, ho, hr3⟩ := hr2
      obtain ⟨b, o, rfl, hb1, hb2, hc⟩ := hx i u hu
      have c0 := (honly.cell (p := ⟨b, o + i * 1 + 0, none⟩) (show b < _ by omega) (.inl hb2)).trans (hc 0 _ rfl)
      simp only [Nat.add_zero, Nat.mul_one] at c0
      have hsum : sumLen (xss.take (i + 1)) = sumLen (xss.take i) + xs.length := by rw [ht2, sumLen_app]; simp [sumLen]
      have hmk : mkSS k (xss.take (i + 1)) = mkSS k (xss.take i) ++ [mkInt (k + sumLen (xss.take i)) xs.length] := by rw [ht2, mkSS_app]; rfl
      rw [hsum] at hz2
      have HS := Lib.hid hsum
      have HM := Lib.hid hmk
      have HT := Lib.hid ht1
      have hle3 := hr3.le
      have hle1 := hr1.le
      clear hc hx hu hue hul hd1 hd2 hxi ht1 ht2 hsum hmk hz
      go_wp2_with fail
      refine (markIntS_any m m2 _ u xs (k + sumLen (xss.take i)) _ ho (by omega) (by omega)).mono ?_
      rintro e w2 ⟨rfl, ho2, hon2⟩
      have hr1' := hr1.only hon2 (.inl (Nat.le_refl _))
      have hr3' := hr3.only hon2 (.inr (Nat.le_refl _))
      go_wp2_with fail
      go_roundw
      case rel =>
        refine ⟨i + 1, m2, by omega, ?_, by go_num, ?_, hr3', honly.trans (hon2.mono (by omega) (by omega))⟩
        · rw [HS.out]; go_num
        · rw [HM.out, HT.out]
          exact hr1'.snoc ho2 hm12
      case measure => simp [intOf]; omega
    · obtain rfl : i = xss.length := by omega
      have hdu : us.drop xss.length = [] := by rw [← HU.out]; simp
      rw [hdu] at hr2
      have hfin : SSO lo hi wr (.slice A xss.length c) (mkSS k xss) := by
        refine ⟨us, mid, ?_, ?_, hmid⟩
        · rw [← HU.out] at hown ⊢
          exact hown.only honly (.inl (Nat.le_refl _))
        · have h1 : us.take xss.length = us := by rw [← HU.out]; simp
          rw [h1] at hr1
          simp only [List.take_length, List.drop_length, RowsO] at hr1 hr2
          exact hr1.mono (Nat.le_refl _) hr2
      have ho := honly.mono hmid (Nat.le_refl hi)
      clear hr1 hr2 hdu hx hown hro hz
      go_wp2_with fail
      go_ret
      exact ⟨ret_int (by simp), hfin, ho⟩
set_option maxHeartbeats 1000000 in
theorem markAutomaton_any (lo hi : Nat) (v : Value) (a : Au) (k : Int) (w : World) (hv : AuO lo hi w v a) (hw : hi ≤ w.heap.size) (hk : 0 ≤ k) (h1 : a.accept.length ≤ 1048576) (h2 : a.next.length ≤ 1048576) (h3 : sumLen a.next ≤ 1099511627776) (hk2 : k ≤ 1099511627776) :
    Calls Tryz.prog 15 #[v, .int .i64 k] w fun e w' => ∃ k', e = .returned (.int .i64 k') ∧ k ≤ k' ∧ k' ≤ k + 1099512676352 ∧ Only lo hi w w' := by
  obtain ⟨ac, nx, mid, rfl, hvs, hes, hm1, hm2⟩ := hv
  obtain ⟨st, accept, next⟩ := a
  have hb0 : Below w.heap.size w (w.alloc (.cells #[.int .i64 st, ac, nx] 38)) := (Below.refl _ _).alloc (Nat.le_refl _) _
  go_enter Tryz.func15, Tryz.ntmps15
  go_wp2_with fail
  refine (markBoolS_any lo mid _ ac accept k _ (hvs.below hb0 (by omega)) hk (by omega)).mono ?_
  rintro e w1 ⟨rfl, -, ho1⟩
  have b0 := (Blk.new w _ _ w.heap.size rfl).only ho1 (.inr (by omega))
  have x0 : w1.cell? ⟨w.heap.size, 2, none⟩ = some nx := b0.cell 2
  have ho2 := (Only.of_below hb0 lo mid).trans ho1
  have hs := ho2.size
  clear hb0 b0
  go_wp2_with fail
  refine (markIntSS_any mid hi nx next (k + accept.length) _ (hes.only ho2 (.inr (Nat.le_refl _))) (by omega) (by omega) h2 (by omega)).mono ?_
  rintro e w2 ⟨rfl, -, ho3⟩
  go_wp2_with fail
  go_ret
  exact ⟨_, rfl, by omega, by omega, (ho2.mono (Nat.le_refl _) hm2).trans (ho3.mono hm1 (Nat.le_refl _))⟩
theorem sumLen_le : ∀ (l : List (List Int)) (m : Nat), (∀ xs ∈ l, xs.length ≤ m) → sumLen l ≤ l.length * m
  | [], _, _ => by simp [sumLen]
  | x :: l, m, h => by
    have h1 := h x (List.mem_cons_self ..)
    have h2 := sumLen_le l m (fun y hy => h y (List.mem_cons_of_mem _ hy))
    simp only [sumLen, List.length_cons, Nat.succ_mul]
    omega
end Go.Proofs.YtpbfdmfkmbdpkaaGreat
namespace Go.Proofs.YtpbfdmfkmbdpkaaGreat
set_option linter.unusedVariables false
set_option linter.unusedSimpArgs false
open Go.ChangeShapes Go.WideShapes Go.ChangeAt Go.RowKit
section
variable {w w' : World}
theorem kcell (hb : Below w.heap.size w w') {p : Addr} {v : Value} (h : w.cell? p = some v) : w'.cell? p = some v := (hb.cell (World.block_lt_of_cell? w _ h)).trans h
theorem kfb (hb : Below w.heap.size w w') {p : Addr} {v : Value} (hc : w.cell? p = some v) (hf : w.frozen? p = false) : w'.frozen? p = false := (hb.frozen (World.block_lt_of_cell? w _ hc)).trans hf
theorem kfg {row : Option Nat} (hg : w.grownBy w' row) {p : Addr} {v : Value} (hn : some p.block ≠ row) (hc : w.cell? p = some v) (hf : w.frozen? p = false) : w'.frozen? p = false := (World.frozen?_of_block (hg.block p.block (World.block_lt_of_cell? w _ hc) hn)).trans hf
theorem kB2 {p0 p1 : Addr} {v0 v1 : Value} (hb : Below w.heap.size w w') (h : w.cell? p0 = some v0 ∧ w.cell? p1 = some v1) : w'.cell? p0 = some v0 ∧ w'.cell? p1 = some v1 := by
  obtain ⟨c0, c1⟩ := h
  exact ⟨kcell hb c0, kcell hb c1⟩
theorem kA2 {p0 p1 : Addr} {v0 v1 : Value} (o : Obj) (h : w.cell? p0 = some v0 ∧ w.cell? p1 = some v1) : (w.alloc o).cell? p0 = some v0 ∧ (w.alloc o).cell? p1 = some v1 := kB2 ((Below.refl _ _).alloc (Nat.le_refl _) _) h
theorem kG2 {p0 p1 : Addr} {v0 v1 : Value} {row : Option Nat} (hg : w.grownBy w' row) (n0 : some p0.block ≠ row) (n1 : some p1.block ≠ row) (h : w.cell? p0 = some v0 ∧ w.cell? p1 = some v1) : w'.cell? p0 = some v0 ∧ w'.cell? p1 = some v1 := by
  obtain ⟨c0, c1⟩ := h
  exact ⟨hg.cell c0 n0, hg.cell c1 n1⟩
theorem kB3 {p0 p1 p2 : Addr} {v0 v1 v2 : Value} (hb : Below w.heap.size w w') (h : w.cell? p0 = some v0 ∧ w.cell? p1 = some v1 ∧ w.cell? p2 = some v2) : w'.cell? p0 = some v0 ∧ w'.cell? p1 = some v1 ∧ w'.cell? p2 = some v2 := by
  obtain ⟨c0, c1, c2⟩ := h
  exact ⟨kcell hb c0, kcell hb c1, kcell hb c2⟩
theorem kA3 {p0 p1 p2 : Addr} {v0 v1 v2 : Value} (o : Obj) (h : w.cell? p0 = some v0 ∧ w.cell? p1 = some v1 ∧ w.cell? p2 = some v2) : (w.alloc o).cell? p0 = some v0 ∧ (w.alloc o).cell? p1 = some v1 ∧ (w.alloc o).cell? p2 = some v2 := kB3 ((Below.refl _ _).alloc (Nat.le_refl _) _) h
theorem kB5 {p0 p1 p2 p3 p4 : Addr} {v0 v1 v2 v3 v4 : Value} (hb : Below w.heap.size w w') (h : w.cell? p0 = some v0 ∧ w.cell? p1 = some v1 ∧ w.cell? p2 = some v2 ∧ w.cell? p3 = some v3 ∧ w.cell? p4 = some v4) : w'.cell? p0 = some v0 ∧ w'.cell? p1 = some v1 ∧ w'.cell? p2 = some v2 ∧ w'.cell? p3 = some v3 ∧ w'.cell? p4 = some v4 := by
  obtain ⟨c0, c1, c2, c3, c4⟩ := h
  exact ⟨kcell hb c0, kcell hb c1, kcell hb c2, kcell hb c3, kcell hb c4⟩
theorem kA5 {p0 p1 p2 p3 p4 : Addr} {v0 v1 v2 v3 v4 : Value} (o : Obj) (h : w.cell? p0 = some v0 ∧ w.cell? p1 = some v1 ∧ w.cell? p2 = some v2 ∧ w.cell? p3 = some v3 ∧ w.cell? p4 = some v4) : (w.alloc o).cell? p0 = some v0 ∧ (w.alloc o).cell? p1 = some v1 ∧ (w.alloc o).cell? p2 = some v2 ∧ (w.alloc o).cell? p3 = some v3 ∧ (w.alloc o).cell? p4 = some v4 := kB5 ((Below.refl _ _).alloc (Nat.le_refl _) _) h
theorem kG5 {p0 p1 p2 p3 p4 : Addr} {v0 v1 v2 v3 v4 : Value} {row : Option Nat} (hg : w.grownBy w' row) (n0 : some p0.block ≠ row) (n1 : some p1.block ≠ row) (n2 : some p2.block ≠ row) (n3 : some p3.block ≠ row) (n4 : some p4.block ≠ row) (h : w.cell? p0 = some v0 ∧ w.cell? p1 = some v1 ∧ w.cell? p2 = some v2 ∧ w.cell? p3 = some v3 ∧ w.cell? p4 = some v4) : w'.cell? p0 = some v0 ∧ w'.cell? p1 = some v1 ∧ w'.cell? p2 = some v2 ∧ w'.cell? p3 = some v3 ∧ w'.cell? p4 = some v4 := by
  obtain ⟨c0, c1, c2, c3, c4⟩ := h
  exact ⟨hg.cell c0 n0, hg.cell c1 n1, hg.cell c2 n2, hg.cell c3 n3, hg.cell c4 n4⟩
theorem kB6 {p0 p1 p2 p3 p4 p5 : Addr} {v0 v1 v2 v3 v4 v5 : Value} (hb : Below w.heap.size w w') (h : w.cell? p0 = some v0 ∧ w.cell? p1 = some v1 ∧ w.cell? p2 = some v2 ∧ w.cell? p3 = some v3 ∧ w.cell? p4 = some v4 ∧ w.cell? p5 = some v5) : w'.cell? p0 = some v0 ∧ w'.cell? p1 = some v1 ∧ w'.cell? p2 = some v2 ∧ w'.cell? p3 = some v3 ∧ w'.cell? p4 = some v4 ∧ w'.cell? p5 = some v5 := by
  obtain ⟨c0, c1, c2, c3, c4, c5⟩ := h
  exact ⟨kcell hb c0, kcell hb c1, kcell hb c2, kcell hb c3, kcell hb c4, kcell hb c5⟩
theorem kA6 {p0 p1 p2 p3 p4 p5 : Addr} {v0 v1 v2 v3 v4 v5 : Value} (o : Obj) (h : w.cell? p0 = some v0 ∧ w.cell? p1 = some v1 ∧ w.cell? p2 = some v2 ∧ w.cell? p3 = some v3 ∧ w.cell? p4 = some v4 ∧ w.cell? p5 = some v5) : (w.alloc o).cell? p0 = some v0 ∧ (w.alloc o).cell? p1 = some v1 ∧ (w.alloc o).cell? p2 = some v2 ∧ (w.alloc o).cell? p3 = some v3 ∧ (w.alloc o).cell? p4 = some v4 ∧ (w.alloc o).cell? p5 = some v5 := kB6 ((Below.refl _ _).alloc (Nat.le_refl _) _) h
theorem kG6 {p0 p1 p2 p3 p4 p5 : Addr} {v0 v1 v2 v3 v4 v5 : Value} {row : Option Nat} (hg : w.grownBy w' row) (n0 : some p0.block ≠ row) (n1 : some p1.block ≠ row) (n2 : some p2.block ≠ row) (n3 : some p3.block ≠ row) (n4 : some p4.block ≠ row) (n5 : some p5.block ≠ row) (h : w.cell? p0 = some v0 ∧ w.cell? p1 = some v1 ∧ w.cell? p2 = some v2 ∧ w.cell? p3 = some v3 ∧ w.cell? p4 = some v4 ∧ w.cell? p5 = some v5) : w'.cell? p0 = some v0 ∧ w'.cell? p1 = some v1 ∧ w'.cell? p2 = some v2 ∧ w'.cell? p3 = some v3 ∧ w'.cell? p4 = some v4 ∧ w'.cell? p5 = some v5 := by
  obtain ⟨c0, c1, c2, c3, c4, c5⟩ := h
  exact ⟨hg.cell c0 n0, hg.cell c1 n1, hg.cell c2 n2, hg.cell c3 n3, hg.cell c4 n4, hg.cell c5 n5⟩
theorem kB7 {p0 p1 p2 p3 p4 p5 p6 : Addr} {v0 v1 v2 v3 v4 v5 v6 : Value} (hb : Below w.heap.size w w') (h : w.cell? p0 = some v0 ∧ w.cell? p1 = some v1 ∧ w.cell? p2 = some v2 ∧ w.cell? p3 = some v3 ∧ w.cell? p4 = some v4 ∧ w.cell? p5 = some v5 ∧ w.cell? p6 = some v6) : w'.cell? p0 = some v0 ∧ w'.cell? p1 = some v1 ∧ w'.cell? p2 = some v2 ∧ w'.cell? p3 = some v3 ∧ w'.cell? p4 = some v4 ∧ w'.cell? p5 = some v5 ∧ w'.cell? p6 = some v6 := by
  obtain ⟨c0, c1, c2, c3, c4, c5, c6⟩ := h
  exact ⟨kcell hb c0, kcell hb c1, kcell hb c2, kcell hb c3, kcell hb c4, kcell hb c5, kcell hb c6⟩
theorem kA7 {p0 p1 p2 p3 p4 p5 p6 : Addr} {v0 v1 v2 v3 v4 v5 v6 : Value} (o : Obj) (h : w.cell? p0 = some v0 ∧ w.cell? p1 = some v1 ∧ w.cell? p2 = some v2 ∧ w.cell? p3 = some v3 ∧ w.cell? p4 = some v4 ∧ w.cell? p5 = some v5 ∧ w.cell? p6 = some v6) : (w.alloc o).cell? p0 = some v0 ∧ (w.alloc o).cell? p1 = some v1 ∧ (w.alloc o).cell? p2 = some v2 ∧ (w.alloc o).cell? p3 = some v3 ∧ (w.alloc o).cell? p4 = some v4 ∧ (w.alloc o).cell? p5 = some v5 ∧ (w.alloc o).cell? p6 = some v6 := kB7 ((Below.refl _ _).alloc (Nat.le_refl _) _) h
theorem kS7 {p0 p1 p2 p3 p4 p5 p6 q : Addr} {v0 v1 v2 v3 v4 v5 v6 x : Value} (n0 : q.block ≠ p0.block) (n1 : q.block ≠ p1.block) (n2 : q.block ≠ p2.block) (n3 : q.block ≠ p3.block) (n4 : q.block ≠ p4.block) (n5 : q.block ≠ p5.block) (n6 : q.block ≠ p6.block) (h : w.cell? p0 = some v0 ∧ w.cell? p1 = some v1 ∧ w.cell? p2 = some v2 ∧ w.cell? p3 = some v3 ∧ w.cell? p4 = some v4 ∧ w.cell? p5 = some v5 ∧ w.cell? p6 = some v6) : (w.setCell q x).cell? p0 = some v0 ∧ (w.setCell q x).cell? p1 = some v1 ∧ (w.setCell q x).cell? p2 = some v2 ∧ (w.setCell q x).cell? p3 = some v3 ∧ (w.setCell q x).cell? p4 = some v4 ∧ (w.setCell q x).cell? p5 = some v5 ∧ (w.setCell q x).cell? p6 = some v6 := by
  obtain ⟨c0, c1, c2, c3, c4, c5, c6⟩ := h
  exact ⟨(World.cell?_setCell_far _ _ _ _ n0).trans c0, (World.cell?_setCell_far _ _ _ _ n1).trans c1, (World.cell?_setCell_far _ _ _ _ n2).trans c2, (World.cell?_setCell_far _ _ _ _ n3).trans c3, (World.cell?_setCell_far _ _ _ _ n4).trans c4, (World.cell?_setCell_far _ _ _ _ n5).trans c5, (World.cell?_setCell_far _ _ _ _ n6).trans c6⟩
end
end Go.Proofs.YtpbfdmfkmbdpkaaGreat
namespace Go.Proofs.YtpbfdmfkmbdpkaaGreat
set_option linter.unusedVariables false
set_option linter.unusedSimpArgs false
/-- n is in the range a to b -/
def wi (n a b : Int) : Bool := decide (a ≤ n) && decide (n ≤ b)
theorem wi_iff {n a b : Int} : wi n a b = true ↔ a ≤ n ∧ n ≤ b := by simp [wi]
def rowOk (n : Int) (row : List Int) : Bool := row.all (fun t => wi t (-1) (n - 1)) && (row.length == 9)
def auOk (a : Au) : Bool := wi a.accept.length 1 12 && wi a.start 0 ((a.accept.length : Int) - 1) && (a.next.length == a.accept.length) && a.next.all (rowOk a.accept.length)
theorem auOk_iff {a : Au} : auOk a = true ↔ (1 ≤ a.accept.length ∧ a.accept.length ≤ 12) ∧ (0 ≤ a.start ∧ a.start ≤ (a.accept.length : Int) - 1) ∧ a.next.length = a.accept.length ∧ ∀ row ∈ a.next, rowOk a.accept.length row = true := by
  simp only [auOk, Bool.and_eq_true, wi_iff, beq_iff_eq, List.all_eq_true]
  constructor
  · rintro ⟨⟨⟨h1, h2⟩, h3⟩, h4⟩
    exact ⟨by omega, h2, h3, h4⟩
  · rintro ⟨h1, h2, h3, h4⟩
    exact ⟨⟨⟨by omega, h2⟩, h3⟩, h4⟩
theorem rowOk_iff {n : Int} {row : List Int} : rowOk n row = true ↔ (∀ t ∈ row, -1 ≤ t ∧ t ≤ n - 1) ∧ row.length = 9 := by
  simp only [rowOk, Bool.and_eq_true, List.all_eq_true, wi_iff, beq_iff_eq]
def edOk (n : Int) (e : Ed) : Bool := wi e.1 1 99 && wi e.2.1 0 (n - 1) && wi e.2.2.1 0 (n - 1) && wi e.2.2.2 0 2
/-- edge number i is fine, and its id is above the one before it -/
def edAt (n : Int) (es : List Ed) (i : Nat) : Bool :=
  match es[i]? with
  | none => true
  | some e => edOk n e && (decide (i = 0) || match es[i - 1]? with
    | some p => decide (p.1 < e.1)
    | none => true)
def grOk (g : Gr) : Bool := g.vals.all (fun v => wi v 0 2) && (List.range g.edges.length).all (edAt g.vals.length g.edges) && wi g.vals.length 1 5 && decide (g.edges.length ≤ 12)
theorem edOk_iff {n : Int} {e : Ed} : edOk n e = true ↔ (1 ≤ e.1 ∧ e.1 ≤ 99) ∧ (0 ≤ e.2.1 ∧ e.2.1 ≤ n - 1) ∧ (0 ≤ e.2.2.1 ∧ e.2.2.1 ≤ n - 1) ∧ (0 ≤ e.2.2.2 ∧ e.2.2.2 ≤ 2) := by
  simp only [edOk, Bool.and_eq_true, wi_iff, and_assoc]
structure GrOk (g : Gr) : Prop where
  n1 : 1 ≤ g.vals.length
  n5 : g.vals.length ≤ 5
  e12 : g.edges.length ≤ 12
  vals : ∀ v ∈ g.vals, 0 ≤ v ∧ v ≤ 2
  edges : ∀ e ∈ g.edges, (1 ≤ e.1 ∧ e.1 ≤ 99) ∧ (0 ≤ e.2.1 ∧ e.2.1 ≤ (g.vals.length : Int) - 1) ∧ (0 ≤ e.2.2.1 ∧ e.2.2.1 ≤ (g.vals.length : Int) - 1) ∧ (0 ≤ e.2.2.2 ∧ e.2.2.2 ≤ 2)
  asc : ∀ (i : Nat) (p e : Ed), g.edges[i]? = some p → g.edges[i + 1]? = some e → p.1 < e.1
theorem grOk_iff {g : Gr} : grOk g = true ↔ GrOk g := by
  simp only [grOk, Bool.and_eq_true, decide_eq_true_eq, List.all_eq_true, wi_iff, List.mem_range]
  constructor
  · rintro ⟨⟨⟨h1, h2⟩, h3⟩, h4⟩
    refine ⟨by omega, by omega, h4, h1, fun e he => ?_, fun i p e hp he => ?_⟩
    · obtain ⟨i, hi, hie⟩ := List.getElem_of_mem he
      have := h2 i hi
      rw [edAt, List.getElem?_eq_getElem hi, hie] at this
      simp only [Bool.and_eq_true] at this
      exact edOk_iff.1 this.1
    · have hi := (List.getElem?_eq_some_iff.1 he).1
      have := h2 (i + 1) hi
      rw [edAt, he] at this
      simp only [Bool.and_eq_true, Nat.add_sub_cancel, hp, Bool.or_eq_true, decide_eq_true_eq] at this
      rcases this.2 with h | h
      · omega
      · exact h
  · rintro ⟨h1, h2, h3, h4, h5, h6⟩
    refine ⟨⟨⟨h4, fun i hi => ?_⟩, by omega⟩, h3⟩
    rw [edAt, List.getElem?_eq_getElem hi]
    simp only [Bool.and_eq_true, Bool.or_eq_true, decide_eq_true_eq]
    refine ⟨edOk_iff.2 (h5 _ (List.getElem_mem hi)), ?_⟩
    by_cases h0 : i = 0
    · exact .inl h0
    · refine .inr ?_
      have hp : g.edges[i - 1]? = some g.edges[i - 1] := List.getElem?_eq_getElem (by omega)
      rw [hp]
      simp only [decide_eq_true_eq]
      exact h6 (i - 1) _ _ hp (by rw [show i - 1 + 1 = i by omega, List.getElem?_eq_getElem hi])
theorem range_all_succ {p : Nat → Bool} {i : Nat} (h : (List.range i).all p = true) (hp : p i = true) : (List.range (i + 1)).all p = true := by
  rw [List.range_succ, List.all_append, h]
  simp [hp]
theorem range_all_false {p : Nat → Bool} {n i : Nat} (hi : i < n) (hp : p i = false) : (List.range n).all p = false := by
  rw [List.all_eq_false]
  exact ⟨i, List.mem_range.2 hi, by simp [hp]⟩
/-- the place of the first edge with an id, -1 if there is none -/
def edgeIdx (g : Gr) (id : Int) : Int := match g.edges.findIdx? (fun e => e.1 == id) with
  | some i => i
  | none => -1
theorem edgeIdx_none {g : Gr} {id : Int} (h : ∀ e : Ed, e ∈ g.edges → ¬ e.1 = id) : edgeIdx g id = -1 := by
  have : g.edges.findIdx? (fun e => e.1 == id) = none := by
    rw [List.findIdx?_eq_none_iff]
    intro e he
    simpa using h e he
  rw [edgeIdx, this]
theorem edgeIdx_some {g : Gr} {id : Int} {i : Nat} {e : Ed} (hi : g.edges[i]? = some e) (he : e.1 = id) (h : ∀ y : Ed, y ∈ g.edges.take i → ¬ y.1 = id) : edgeIdx g id = i := by
  have : g.edges.findIdx? (fun e => e.1 == id) = some i := by
    rw [List.findIdx?_eq_some_iff_getElem]
    obtain ⟨hlt, hx⟩ := List.getElem?_eq_some_iff.1 hi
    refine ⟨hlt, by rw [hx]; simpa using he, fun j hj => ?_⟩
    have hm : g.edges[j] ∈ g.edges.take i := by
      rw [List.mem_take_iff_getElem]
      exact ⟨j, by omega, rfl⟩
    simpa using h _ hm
  rw [edgeIdx, this]
/-- the edge with an id, of a valid graph -/
def stepEd (g : Gr) (id : Int) : Option Ed := if grOk g then g.edges.find? (fun e => e.1 == id) else none
theorem stepEd_ok {g : Gr} {id : Int} {e : Ed} (h : stepEd g id = some e) : GrOk g ∧ e ∈ g.edges ∧ e.1 = id := by
  unfold stepEd at h
  split at h
  · rename_i hg
    exact ⟨grOk_iff.1 hg, List.mem_of_find?_eq_some h, by simpa using List.find?_some h⟩
  · cases h
theorem all_take_succ {α : Type} {p : α → Bool} {xs : List α} {i : Nat} {x : α} (hx : xs[i]? = some x) (h : (xs.take i).all p = true) (hp : p x = true) : (xs.take (i + 1)).all p = true := by
  rw [take_snoc hx, List.all_append, h]
  simp [hp]
theorem all_false_of {α : Type} {p : α → Bool} {xs : List α} {i : Nat} {x : α} (hx : xs[i]? = some x) (hp : p x = false) : xs.all p = false := by
  rw [List.all_eq_false]
  exact ⟨x, List.mem_of_getElem? hx, by simp [hp]⟩
end Go.Proofs.YtpbfdmfkmbdpkaaGreat
namespace Go.Proofs.YtpbfdmfkmbdpkaaGreat
set_option linter.unusedVariables false
set_option linter.unusedSimpArgs false
def mem (n m : Nat) : List Nat := (List.range n).filter m.testBit
theorem mem_succ (n m : Nat) : mem (n + 1) m = mem n m ++ (if m.testBit n = true then [n] else []) := by
  unfold mem
  rw [List.range_succ, List.filter_append]
  congr 1
  cases h : m.testBit n <;> simp [h]
theorem mem_yes {n m : Nat} (h : m.testBit n = true) : mem (n + 1) m = mem n m ++ [n] := by rw [mem_succ, if_pos h]
theorem mem_no {n m : Nat} (h : m.testBit n = false) : mem (n + 1) m = mem n m := by rw [mem_succ, if_neg (by simp [h]), List.append_nil]
theorem mem_mem {n m t : Nat} : t ∈ mem n m ↔ t < n ∧ m.testBit t = true := by simp [mem]
theorem mem_stop {i n m : Nat} (h : m < 2 ^ i) (hn : i ≤ n) : mem n m = mem i m := by
  induction n with
  | zero =>
    have : i = 0 := by omega
    subst this; rfl
  | succ n ih =>
    by_cases h1 : i ≤ n
    · rw [mem_no (Nat.testBit_lt_two_pow (Nat.lt_of_lt_of_le h (Nat.pow_le_pow_right (by omega) h1))), ih h1]
    · have : i = n + 1 := by omega
      subst this; rfl
theorem mem_len (n m : Nat) : (mem n m).length ≤ n := by
  have := List.length_filter_le m.testBit (List.range n)
  rw [List.length_range] at this
  exact this
/-- {s}, and m with s put in: plain names, so that a walk leaves them alone -/
def bit (s : Nat) : Nat := 2 ^ s
def ins (m s : Nat) : Nat := m ||| 2 ^ s
theorem bit_test (s t : Nat) : (bit s).testBit t = decide (s = t) := by rw [bit, Nat.testBit_two_pow]
theorem ins_test (m s t : Nat) : (ins m s).testBit t = (m.testBit t || decide (s = t)) := by rw [ins, Nat.testBit_or, Nat.testBit_two_pow]
theorem bit_lt {n s : Nat} (h : s < n) : bit s < 2 ^ n := Nat.pow_lt_pow_right (by omega) h
theorem mem_pow_ge {n s : Nat} (h : n ≤ s) : mem n (bit s) = [] := by
  induction n with
  | zero => rfl
  | succ n ih => rw [mem_no (by rw [bit_test]; simp; omega), ih (by omega)]
theorem mem_pow {n s : Nat} (h : s < n) : mem n (bit s) = [s] := by
  induction n with
  | zero => omega
  | succ n ih =>
    by_cases hs : s = n
    · subst hs
      rw [mem_yes (by rw [bit_test]; simp), mem_pow_ge (Nat.le_refl _)]; rfl
    · rw [mem_no (by rw [bit_test]; simp; omega), ih (by omega)]
theorem mem_or_ge {n m t : Nat} (h : n ≤ t) : mem n (ins m t) = mem n m := by
  unfold mem
  apply List.filter_congr
  intro x hx
  have := List.mem_range.1 hx
  rw [ins_test]
  have h2 : ¬ t = x := by omega
  simp [h2]
theorem cnt_or {n m t : Nat} (ht : t < n) (hm : m.testBit t = false) : (mem n (ins m t)).length = (mem n m).length + 1 := by
  induction n with
  | zero => omega
  | succ n ih =>
    by_cases h : t = n
    · subst h
      rw [mem_yes (by rw [ins_test]; simp), mem_no hm, mem_or_ge (Nat.le_refl _)]
      simp
    · have := ih (by omega)
      have hb : (ins m t).testBit n = m.testBit n := by
        rw [ins_test]
        simp [h]
      cases hn : m.testBit n with
      | false => rw [mem_no (by rw [hb, hn]), mem_no hn, this]
      | true => rw [mem_yes (by rw [hb, hn]), mem_yes hn, List.length_append, List.length_append, this]; rfl
theorem ins_lt {n m t : Nat} (hm : m < 2 ^ n) (ht : t < n) : ins m t < 2 ^ n := Nat.or_lt_two_pow hm (Nat.pow_lt_pow_right (by omega) ht)
theorem foldl_inv {α β : Type} {P : α → Prop} {f : α → β → α} (h : ∀ m x, P m → P (f m x)) : ∀ (l : List β) (m : α), P m → P (l.foldl f m)
  | [], _, hm => hm
  | x :: l, m, hm => foldl_inv h l (f m x) (h m x hm)
theorem foldl_take {α β : Type} {f : α → β → α} {xs : List β} {i : Nat} {x : β} (h : xs[i]? = some x) (z : α) : (xs.take (i + 1)).foldl f z = f ((xs.take i).foldl f z) x := by
  rw [take_snoc h, List.foldl_append]; rfl
def mv (a : Au) (s l : Nat) : Int := (a.next.getD s []).getD l (-1)
theorem mv_of {a : Au} {s l : Nat} {row : List Int} {t : Int} (hr : a.next[s]? = some row) (ht : row[l]? = some t) : mv a s l = t := by
  simp [mv, List.getD, hr, ht]
theorem mv_lt {a : Au} (h : auOk a = true) (s l : Nat) : -1 ≤ mv a s l ∧ mv a s l ≤ (a.accept.length : Int) - 1 := by
  obtain ⟨⟨h1, _⟩, _, _, hr⟩ := auOk_iff.1 h
  unfold mv
  cases hs : a.next[s]? with
  | none => simp [List.getD, hs]; omega
  | some row =>
    obtain ⟨hrow, _⟩ := rowOk_iff.1 (hr row (List.mem_of_getElem? hs))
    cases ht : row[l]? with
    | none => simp [List.getD, hs, ht]; omega
    | some t =>
      simp only [List.getD, hs, ht, Option.getD_some]
      exact hrow t (List.mem_of_getElem? ht)
/-- what the loop 'while s is a state that is not in the set' gathers -/
def clsF (a : Au) (l : Nat) : Nat → Int → Nat → Nat
  | 0, _, m => m
  | f + 1, s, m => if 0 ≤ s ∧ m.testBit s.toNat = false then clsF a l f (mv a s.toNat l) (ins m s.toNat) else m
def cls (a : Au) (v s : Nat) : Nat := clsF a (6 + v) 13 s 0
theorem clsF_lt {a : Au} (h : auOk a = true) (l : Nat) : ∀ (f : Nat) (s : Int) (m : Nat), s < (a.accept.length : Int) → m < 2 ^ a.accept.length → clsF a l f s m < 2 ^ a.accept.length := by
  intro f
  induction f with
  | zero => intro s m _ hm; exact hm
  | succ f ih =>
    intro s m hs hm
    rw [clsF]
    split
    · rename_i hc
      exact ih _ _ (by have := (mv_lt h s.toNat l).2; omega) (ins_lt hm (by omega))
    · exact hm
theorem cls_lt {a : Au} (h : auOk a = true) (v s : Nat) (hs : s < a.accept.length) : cls a v s < 2 ^ a.accept.length := clsF_lt h _ _ _ _ (by omega) (Nat.two_pow_pos _)
theorem clsF_stop {a : Au} {l : Nat} {f : Nat} {s : Int} {m : Nat} (h : s < 0 ∨ m.testBit s.toNat = true) : clsF a l f s m = m := by
  cases f with
  | zero => rfl
  | succ f =>
    rw [clsF, if_neg]
    rintro ⟨h1, h2⟩
    rcases h with h | h
    · omega
    · rw [h] at h2; cases h2
theorem clsF_go {a : Au} {l : Nat} {f s : Nat} {m : Nat} (h : m.testBit s = false) : clsF a l (f + 1) s m = clsF a l f (mv a s l) (ins m s) := by
  rw [clsF, if_pos ⟨by omega, by simpa using h⟩]
  simp
def aft1 (a : Au) (l : Nat) (m t : Nat) : Nat := if 0 ≤ mv a t l then ins m (mv a t l).toNat else m
def aftS (a : Au) (v l : Nat) (m s : Nat) : Nat := (mem 12 (cls a v s)).foldl (aft1 a l) m
def aft (a : Au) (set v l : Nat) : Nat := (mem 12 set).foldl (aftS a v l) 0
theorem aft1_lt {a : Au} (h : auOk a = true) (l m t : Nat) (hm : m < 2 ^ a.accept.length) : aft1 a l m t < 2 ^ a.accept.length := by
  unfold aft1
  split
  · have := (mv_lt h t l).2
    exact ins_lt hm (by omega)
  · exact hm
theorem aftS_lt {a : Au} (h : auOk a = true) (v l m s : Nat) (hm : m < 2 ^ a.accept.length) : aftS a v l m s < 2 ^ a.accept.length :=
  foldl_inv (P := fun m => m < 2 ^ a.accept.length) (fun m x hm => aft1_lt h l m x hm) _ _ hm
theorem aft_lt {a : Au} (h : auOk a = true) (set v l : Nat) : aft a set v l < 2 ^ a.accept.length :=
  foldl_inv (P := fun m => m < 2 ^ a.accept.length) (fun m x hm => aftS_lt h v l m x hm) _ _ (Nat.two_pow_pos _)
theorem lt12 {a : Au} (h : auOk a = true) {m : Nat} (hm : m < 2 ^ a.accept.length) : m < 4096 := by
  have h1 : a.accept.length ≤ 12 := (auOk_iff.1 h).1.2
  exact Nat.lt_of_lt_of_le hm (Nat.pow_le_pow_right (by omega) h1 : 2 ^ a.accept.length ≤ 2 ^ 12)
theorem mem12 {a : Au} (h : auOk a = true) {m : Nat} (hm : m < 2 ^ a.accept.length) : mem 12 m = mem a.accept.length m := mem_stop hm (auOk_iff.1 h).1.2
theorem aft_one {a : Au} (v l : Nat) {s : Nat} (hs : s < 12) : aft a (bit s) v l = (mem 12 (cls a v s)).foldl (aft1 a l) 0 := by
  rw [aft, mem_pow hs]; rfl
def accC (a : Au) (v s : Nat) : Bool := (mem 12 (cls a v s)).any fun t => a.accept.getD t false
def acc (a : Au) (set v : Nat) : Bool := (mem 12 set).any (accC a v)
theorem acc_one (a : Au) (v : Nat) {s : Nat} (hs : s < 12) : acc a (bit s) v = accC a v s := by rw [acc, mem_pow hs]; simp
abbrev Arc := St × Int × Int
def arcE (x : Int) (e : Ed) : List Arc := (if e.2.1 = x then [((e.1, false), 2 * e.2.2.2, e.2.2.1)] else []) ++ (if e.2.2.1 = x then [((e.1, true), 2 * e.2.2.2 + 1, e.2.1)] else [])
def arcsOf (g : Gr) (x : Int) : List Arc := g.edges.flatMap (arcE x)
theorem flat_take {α β : Type} {f : α → List β} {xs : List α} {i : Nat} {x : α} (h : xs[i]? = some x) : (xs.take (i + 1)).flatMap f = (xs.take i).flatMap f ++ f x := by
  rw [take_snoc h, List.flatMap_append]; simp
theorem mem_arcE {x : Int} {e : Ed} {y : Arc} : y ∈ arcE x e ↔ (e.2.1 = x ∧ y = ((e.1, false), 2 * e.2.2.2, e.2.2.1)) ∨ (e.2.2.1 = x ∧ y = ((e.1, true), 2 * e.2.2.2 + 1, e.2.1)) := by
  unfold arcE
  rw [List.mem_append]
  by_cases h1 : e.2.1 = x <;> by_cases h2 : e.2.2.1 = x <;> simp [h1, h2]
theorem ids_lt {g : Gr} (hg : GrOk g) : ∀ (k i : Nat) (p e : Ed), g.edges[i]? = some p → g.edges[i + 1 + k]? = some e → p.1 < e.1 := by
  intro k
  induction k with
  | zero => intro i p e hp he; exact hg.asc i p e hp he
  | succ k ih =>
    intro i p e hp he
    have hlt := (List.getElem?_eq_some_iff.1 he).1
    have hq : g.edges[i + 1 + k]? = some g.edges[i + 1 + k] := List.getElem?_eq_getElem (by omega)
    exact Int.lt_trans (ih i p _ hp hq) (hg.asc _ _ _ hq he)
theorem edgeIdx_at {g : Gr} (hg : GrOk g) {i : Nat} {e : Ed} (he : g.edges[i]? = some e) : edgeIdx g e.1 = i := by
  refine edgeIdx_some he rfl fun y hy hye => ?_
  obtain ⟨j, hj, hjy⟩ := List.getElem_of_mem hy
  rw [List.length_take] at hj
  rw [List.getElem_take] at hjy
  have hj' : g.edges[j]? = some y := by rw [← hjy]; exact List.getElem?_eq_getElem (by omega)
  have := ids_lt hg (i - j - 1) j y e hj' (by rw [show j + 1 + (i - j - 1) = i by omega]; exact he)
  omega
def arcLetter (b : Bool) (e : Ed) : Int := if b then 2 * e.2.2.2 + 1 else 2 * e.2.2.2
def arcTo (b : Bool) (e : Ed) : Int := if b then e.2.1 else e.2.2.1
theorem arc_edge {g : Gr} (hg : GrOk g) {x : Int} {y : Arc} (hy : y ∈ arcsOf g x) :
    ∃ (i : Nat) (e : Ed), edgeIdx g y.1.1 = i ∧ g.edges[i]? = some e ∧ y.2.1 = arcLetter y.1.2 e ∧ y.2.2 = arcTo y.1.2 e ∧ e.1 = y.1.1 ∧ e ∈ g.edges := by
  obtain ⟨e, he, hye⟩ := List.mem_flatMap.1 hy
  obtain ⟨i, hi, hie⟩ := List.getElem_of_mem he
  have hi' : g.edges[i]? = some e := by rw [← hie]; exact List.getElem?_eq_getElem hi
  have hx := edgeIdx_at hg hi'
  rcases mem_arcE.1 hye with ⟨_, rfl⟩ | ⟨_, rfl⟩
  · exact ⟨i, e, hx, hi', rfl, rfl, rfl, he⟩
  · exact ⟨i, e, hx, hi', rfl, rfl, rfl, he⟩
theorem arc_range {g : Gr} (hg : GrOk g) {x : Int} {y : Arc} (hy : y ∈ arcsOf g x) : (0 ≤ y.2.1 ∧ y.2.1 ≤ 5) ∧ 0 ≤ y.2.2 ∧ y.2.2 ≤ (g.vals.length : Int) - 1 := by
  obtain ⟨i, e, _, _, h1, h2, _, he⟩ := arc_edge hg hy
  obtain ⟨_, h3, h4, h5⟩ := hg.edges e he
  rw [h1, h2]
  unfold arcLetter arcTo
  split <;> omega
theorem arcE_len (x : Int) (e : Ed) : (arcE x e).length ≤ 2 := by
  unfold arcE
  rw [List.length_append]
  split <;> split <;> simp
theorem flat_len {α β : Type} {f : α → List β} {k : Nat} (h : ∀ x, (f x).length ≤ k) : ∀ xs : List α, (xs.flatMap f).length ≤ xs.length * k
  | [] => by simp
  | x :: xs => by
    have := flat_len h xs
    rw [List.flatMap_cons, List.length_append, List.length_cons, Nat.succ_mul]
    have := h x
    omega
theorem arcs_len {g : Gr} (hg : GrOk g) (x : Int) : (arcsOf g x).length ≤ 24 := by
  have := flat_len (arcE_len x) g.edges
  have := hg.e12
  unfold arcsOf
  omega
def valAt (g : Gr) (x : Nat) : Nat := (g.vals.getD x 0).toNat
theorem valAt_of {g : Gr} {x : Nat} {v : Int} (h : g.vals[x]? = some v) : valAt g x = v.toNat := by simp [valAt, List.getD, h]
/-- the vertices behind vertex (x, s) by one arc -/
def nextA (g : Gr) (a : Au) (x s : Nat) (y : Arc) : List Nat := (mem 12 (aft a (bit s) (valAt g x) y.2.1.toNat)).map fun t => y.2.2.toNat * a.accept.length + t
def nextV (g : Gr) (a : Au) (x s : Nat) : List Nat := (arcsOf g (x : Int)).flatMap (nextA g a x s)
def nextI (g : Gr) (a : Au) (i : Nat) : List Nat := nextV g a (i / a.accept.length) (i % a.accept.length)
theorem nextV_lt {g : Gr} {a : Au} (hg : GrOk g) (ha : auOk a = true) {x s k : Nat} (h : k ∈ nextV g a x s) : k < g.vals.length * a.accept.length := by
  obtain ⟨y, hy, hk⟩ := List.mem_flatMap.1 h
  obtain ⟨t, ht, rfl⟩ := List.mem_map.1 hk
  have h1 := (arc_range hg hy).2
  have h2 := aft_lt ha (bit s) (valAt g x) y.2.1.toNat
  rw [mem12 ha h2, mem_mem] at ht
  have h3 : y.2.2.toNat + 1 ≤ g.vals.length := by omega
  have h4 := Nat.mul_le_mul_right a.accept.length h3
  rw [Nat.succ_mul] at h4
  omega
theorem nextV_len {g : Gr} {a : Au} (hg : GrOk g) (x s : Nat) : (nextV g a x s).length ≤ 288 := by
  have h1 : ∀ y, (nextA g a x s y).length ≤ 12 := fun y => by rw [nextA, List.length_map]; exact mem_len _ _
  have h2 := flat_len h1 (arcsOf g (x : Int))
  have h3 := arcs_len hg (x : Int)
  unfold nextV
  omega
def relax (d : Int) : List Nat → List Int → List Nat → List Int × List Nat
  | [], D, q => (D, q)
  | k :: l, D, q => if D.getD k 0 < 0 then relax d l (D.set k d) (q ++ [k]) else relax d l D q
def bfs (next : Nat → List Nat) : Nat → List Int → List Nat → List Int
  | 0, D, _ => D
  | _ + 1, D, [] => D
  | f + 1, D, h :: q => bfs next f (relax (D.getD h 0 + 1) (next h) D q).1 (relax (D.getD h 0 + 1) (next h) D q).2
def negs (D : List Int) : Nat := D.countP (fun x => decide (x < 0))
theorem negs_set {D : List Int} {k : Nat} {d : Int} (hk : k < D.length) (hn : D.getD k 0 < 0) (hd : 0 ≤ d) : negs (D.set k d) + 1 = negs D := by
  induction D generalizing k with
  | nil => simp at hk
  | cons x D ih =>
    cases k with
    | zero =>
      simp only [List.getD_cons_zero] at hn
      have : ¬ d < 0 := by omega
      simp [negs, List.countP_cons, hn, this]
    | succ k =>
      have := ih (k := k) (by simpa using hk) (by simpa using hn)
      simp only [negs, List.set_cons_succ, List.countP_cons] at this ⊢
      omega
/-- what holds of distances D and a queue q, with f rounds left of F -/
structure BfsI (N F f : Nat) (D : List Int) (q : List Nat) : Prop where
  len : D.length = N
  queue : ∀ h ∈ q, h < N ∧ 0 ≤ D.getD h 0
  fuel : q.length + negs D ≤ f
  top : ∀ h, D.getD h 0 + (f : Int) ≤ F
  low : ∀ h, -1 ≤ D.getD h 0
  fF : f ≤ F
theorem getD_set' {D : List Int} {k h : Nat} {d : Int} (hk : k < D.length) : (D.set k d).getD h 0 = if h = k then d else D.getD h 0 := by
  simp only [List.getD, List.getElem?_set]
  by_cases hh : h = k
  · subst hh; simp [hk]
  · simp [hh, Ne.symm hh]
theorem BfsI.new {N F f : Nat} {D : List Int} {q : List Nat} {k : Nat} {d : Int} (h : BfsI N F f D q) (hk : k < N) (hn : D.getD k 0 < 0) (hd : 0 ≤ d) (hdF : d + (f : Int) ≤ F) : BfsI N F f (D.set k d) (q ++ [k]) := by
  have hkl : k < D.length := by rw [h.len]; exact hk
  refine ⟨by rw [List.length_set]; exact h.len, fun x hx => ?_, ?_, fun x => ?_, fun x => ?_, h.fF⟩
  · rw [getD_set' hkl]
    rcases List.mem_append.1 hx with hx | hx
    · have := h.queue x hx
      split
      · exact ⟨this.1, hd⟩
      · exact this
    · have : x = k := by simpa using hx
      subst this
      simp [hk, hd]
  · have := negs_set hkl hn hd
    have := h.fuel
    rw [List.length_append, List.length_singleton]
    omega
  · rw [getD_set' hkl]
    have := h.top x
    split <;> omega
  · rw [getD_set' hkl]
    have := h.low x
    split <;> omega
theorem BfsI.pop {N F f : Nat} {D : List Int} {q : List Nat} {k : Nat} (h : BfsI N F (f + 1) D (k :: q)) : BfsI N F f D q :=
  ⟨h.len, fun x hx => h.queue x (List.mem_cons_of_mem _ hx), by have := h.fuel; rw [List.length_cons] at this; omega, fun x => by have := h.top x; omega, h.low, by have := h.fF; omega⟩
theorem bfs_nil (next : Nat → List Nat) (f : Nat) (D : List Int) : bfs next f D [] = D := by cases f <;> rfl
theorem bfs_len (next : Nat → List Nat) : ∀ (f : Nat) (D : List Int) (q : List Nat), (bfs next f D q).length = D.length := by
  have hr : ∀ (d : Int) (l : List Nat) (D : List Int) (q : List Nat), (relax d l D q).1.length = D.length := by
    intro d l
    induction l with
    | nil => intro D q; rfl
    | cons k l ih =>
      intro D q
      rw [relax]
      split
      · rw [ih, List.length_set]
      · exact ih _ _
  intro f
  induction f with
  | zero => intro D q; rfl
  | succ f ih =>
    intro D q
    cases q with
    | nil => rfl
    | cons h q => rw [bfs, ih, hr]
end Go.Proofs.YtpbfdmfkmbdpkaaGreat
namespace Go.Proofs.YtpbfdmfkmbdpkaaGreat
set_option linter.unusedVariables false
set_option linter.unusedSimpArgs false
open Go.ChangeShapes Go.WideShapes Go.ChangeAt Go.RowKit
theorem bcell {w w' : World} (hb : Below w.heap.size w w') {b o : Nat} {v : Value} (h : w.cell? ⟨b, o, none⟩ = some v) (hl : b < w.heap.size) : w'.cell? ⟨b, o, none⟩ = some v := (hb.cell (p := ⟨b, o, none⟩) hl).trans h
/-- slice value v, of n elements, at A with capacity c; element i (k cells E x) lies in a block below H -/
structure SlC {α : Type} (H : Nat) (w : World) (E : α → List Value) (k : Nat) (A : Option Addr) (xs : List α) : Prop where
  at_ : ∀ i x, xs[i]? = some x → ∃ b o, A = some ⟨b, o, none⟩ ∧ b < H ∧ ∀ j u, (E x)[j]? = some u → w.cell? ⟨b, o + i * k + j, none⟩ = some u
theorem SlE.form {α : Type} {w : World} {E : α → List Value} {k : Nat} {v : Value} {xs : List α} (h : SlE w E k v xs) :
    ∃ A c, v = .slice A xs.length c ∧ xs.length ≤ c ∧ c ≤ 9223372036854775807 ∧ SlC w.heap.size w E k A xs := by
  obtain ⟨A, c, rfl, h1, h2, h3⟩ := h
  exact ⟨A, c, rfl, h1, by simpa [maxLen] using h2, ⟨fun i x hx => by obtain ⟨b, o, e, _, g, h⟩ := h3 i x hx; exact ⟨b, o, e, g, h⟩⟩⟩
theorem SlC.keep {α : Type} {w w' : World} {E : α → List Value} {k : Nat} {A : Option Addr} {xs : List α} (h : SlC w.heap.size w E k A xs) (hb : Below w.heap.size w w') : SlC w'.heap.size w' E k A xs :=
  ⟨fun i x hx => by obtain ⟨b, o, e, g, h⟩ := h.at_ i x hx; exact ⟨b, o, e, Nat.lt_of_lt_of_le g hb.size, fun j u hu => (hb.cell (p := ⟨_, _, none⟩) g).trans (h j u hu)⟩⟩
/-- an int, a bool: one cell -/
theorem SlC.int {H : Nat} {w : World} {A : Option Addr} {xs : List Int} (h : SlC H w cI 1 A xs) {i : Nat} {x : Int} (hx : xs[i]? = some x) : ∃ b o, A = some ⟨b, o, none⟩ ∧ b < H ∧ w.cell? ⟨b, o + i, none⟩ = some (.int .i64 x) := by
  obtain ⟨b, o, e, g, h⟩ := h.at_ i x hx
  exact ⟨b, o, e, g, by simpa using h 0 _ rfl⟩
theorem SlC.bool {H : Nat} {w : World} {A : Option Addr} {xs : List Bool} (h : SlC H w cB 1 A xs) {i : Nat} {x : Bool} (hx : xs[i]? = some x) : ∃ b o, A = some ⟨b, o, none⟩ ∧ b < H ∧ w.cell? ⟨b, o + i, none⟩ = some (.bool x) := by
  obtain ⟨b, o, e, g, h⟩ := h.at_ i x hx
  exact ⟨b, o, e, g, by simpa using h 0 _ rfl⟩
theorem SlC.val {H : Nat} {w : World} {A : Option Addr} {xs : List Value} (h : SlC H w cV 1 A xs) {i : Nat} {x : Value} (hx : xs[i]? = some x) : ∃ b o, A = some ⟨b, o, none⟩ ∧ b < H ∧ w.cell? ⟨b, o + i, none⟩ = some x := by
  obtain ⟨b, o, e, g, h⟩ := h.at_ i x hx
  exact ⟨b, o, e, g, by simpa using h 0 _ rfl⟩
theorem SlC.ed {H : Nat} {w : World} {A : Option Addr} {xs : List Ed} (h : SlC H w cEd 4 A xs) {i : Nat} {e : Ed} (hx : xs[i]? = some e) :
    ∃ b o, A = some ⟨b, o, none⟩ ∧ b < H ∧ w.cell? ⟨b, o + i * 4, none⟩ = some (.int .i64 e.1) ∧ w.cell? ⟨b, o + i * 4 + 1, none⟩ = some (.int .i64 e.2.1) ∧ w.cell? ⟨b, o + i * 4 + 2, none⟩ = some (.int .i64 e.2.2.1) ∧ w.cell? ⟨b, o + i * 4 + 3, none⟩ = some (.int .i64 e.2.2.2) := by
  obtain ⟨b, o, e, g, h⟩ := h.at_ i e hx
  exact ⟨b, o, e, g, by simpa using h 0 _ rfl, h 1 _ rfl, h 2 _ rfl, h 3 _ rfl⟩
theorem SlC.st {H : Nat} {w : World} {A : Option Addr} {xs : List St} (h : SlC H w cSt 2 A xs) {i : Nat} {e : St} (hx : xs[i]? = some e) :
    ∃ b o, A = some ⟨b, o, none⟩ ∧ b < H ∧ w.cell? ⟨b, o + i * 2, none⟩ = some (.int .i64 e.1) ∧ w.cell? ⟨b, o + i * 2 + 1, none⟩ = some (.bool e.2) := by
  obtain ⟨b, o, e, g, h⟩ := h.at_ i e hx
  exact ⟨b, o, e, g, by simpa using h 0 _ rfl, h 1 _ rfl⟩
/-- a valid automaton: the rows lie at A2, each of nine cells -/
structure AuC (w : World) (A1 A2 : Option Addr) (a : Au) : Prop where
  acc : SlC w.heap.size w cB 1 A1 a.accept
  row : ∀ i, i < a.accept.length → ∃ b o b3 o3 c3, A2 = some ⟨b, o, none⟩ ∧ b < w.heap.size ∧ w.cell? ⟨b, o + i, none⟩ = some (.slice (some ⟨b3, o3, none⟩) 9 c3) ∧ 9 ≤ c3 ∧ c3 ≤ 9223372036854775807 ∧ b3 < w.heap.size ∧ ∀ l, l < 9 → w.cell? ⟨b3, o3 + l, none⟩ = some (.int .i64 (mv a i l))
theorem AuV.form {w : World} {v : Value} {a : Au} (h : AuV 0 w.heap.size w v a) (hok : auOk a = true) :
    ∃ A1 c1 A2 c2, v = .agg #[.int .i64 a.start, .slice A1 a.accept.length c1, .slice A2 a.accept.length c2] ∧ a.accept.length ≤ c1 ∧ c1 ≤ 9223372036854775807 ∧ a.accept.length ≤ c2 ∧ c2 ≤ 9223372036854775807 ∧ AuC w A1 A2 a := by
  obtain ⟨⟨-, -⟩, -, hnl, hrk⟩ := auOk_iff.1 hok
  obtain ⟨ac, nx, rfl, h1, us, h2, hul, hrows⟩ := h
  obtain ⟨A1, c1, rfl, h3, h4, h5⟩ := SlE.form h1
  obtain ⟨A2, c2, rfl, h6, h7, h8⟩ := SlE.form h2
  rw [hul, hnl] at h6 ⊢
  refine ⟨A1, c1, A2, c2, rfl, h3, h4, h6, h7, h5, fun i hi => ?_⟩
  have hin : i < a.next.length := by omega
  have hiu : i < us.length := by omega
  have hxi : a.next[i]? = some a.next[i] := List.getElem?_eq_getElem hin
  obtain ⟨b, o, rfl, hb, hc⟩ := h8.val (List.getElem?_eq_getElem hiu)
  have hrl := (rowOk_iff.1 (hrk _ (List.getElem_mem hin))).2
  obtain ⟨A3, c3, hv3, h9, h10, h11⟩ := SlE.form (hrows i us[i] _ (List.getElem?_eq_getElem hiu) hxi)
  rw [hrl] at hv3 h9
  obtain ⟨b3, o3, rfl, hb3, -⟩ := h11.int (i := 0) (List.getElem?_eq_getElem (by omega))
  refine ⟨b, o, b3, o3, c3, rfl, hb, by rw [hc, hv3], h9, h10, hb3, fun l hl => ?_⟩
  have hti : a.next[i][l]? = some a.next[i][l] := List.getElem?_eq_getElem (by omega)
  obtain ⟨b4, o4, he, hb4, hc4⟩ := h11.int hti
  simp only [Option.some.injEq, Addr.mk.injEq, and_true] at he
  obtain ⟨rfl, rfl⟩ := he
  rw [hc4, mv_of hxi hti]
theorem AuC.keep {w w' : World} {A1 A2 : Option Addr} {a : Au} (h : AuC w A1 A2 a) (hb : Below w.heap.size w w') : AuC w' A1 A2 a := by
  refine ⟨h.acc.keep hb, fun i hi => ?_⟩
  obtain ⟨b, o, b3, o3, c3, e, h1, h2, h3, h4, h5, h6⟩ := h.row i hi
  exact ⟨b, o, b3, o3, c3, e, Nat.lt_of_lt_of_le h1 hb.size, (hb.cell (p := ⟨_, _, none⟩) h1).trans h2, h3, h4, Nat.lt_of_lt_of_le h5 hb.size, fun l hl => (hb.cell (p := ⟨_, _, none⟩) h5).trans (h6 l hl)⟩
/-- a graph: values at A1, edges at A2 -/
theorem GrV.form {w : World} {v : Value} {g : Gr} (h : GrV 0 w.heap.size w v g) :
    ∃ A1 c1 A2 c2, v = .agg #[.slice A1 g.vals.length c1, .slice A2 g.edges.length c2] ∧ g.vals.length ≤ c1 ∧ c1 ≤ 9223372036854775807 ∧ g.edges.length ≤ c2 ∧ c2 ≤ 9223372036854775807 ∧ SlC w.heap.size w cI 1 A1 g.vals ∧ SlC w.heap.size w cEd 4 A2 g.edges := by
  obtain ⟨vs, es, rfl, h1, h2⟩ := h
  obtain ⟨A1, c1, rfl, h3, h4, h5⟩ := SlE.form h1
  obtain ⟨A2, c2, rfl, h6, h7, h8⟩ := SlE.form h2
  exact ⟨A1, c1, A2, c2, rfl, h3, h4, h6, h7, h5, h8⟩
theorem WkV.form {w : World} {v : Value} {k : Wk} (h : WkV 0 w.heap.size w v k) :
    ∃ A1 c1, v = .agg #[.int .i64 k.1, .slice A1 k.2.length c1] ∧ k.2.length ≤ c1 ∧ c1 ≤ 9223372036854775807 ∧ SlC w.heap.size w cSt 2 A1 k.2 := by
  obtain ⟨ss, rfl, h1⟩ := h
  obtain ⟨A1, c1, rfl, h3, h4, h5⟩ := SlE.form h1
  exact ⟨A1, c1, rfl, h3, h4, h5⟩
end Go.Proofs.YtpbfdmfkmbdpkaaGreat
namespace Go.Proofs.YtpbfdmfkmbdpkaaGreat
set_option linter.unusedVariables false
set_option linter.unusedSimpArgs false
open Go.ChangeShapes Go.WideShapes Go.ChangeAt Go.RowKit
theorem wrap_small {n : Int} (h0 : 0 ≤ n) (h1 : n < 9223372036854775808) : IntKind.i64.wrap n = n := by rw [IntKind.wrap_i64]; omega
theorem wrap64_small {n : Int} (h0 : 0 ≤ n) (h1 : n < 9223372036854775808) : wrap64 n = n := IntWalk.wrap64_in n ⟨by omega, by omega⟩
theorem i64_and_nat (a b : Nat) (ha : a < 2 ^ 62) (hb : b < 2 ^ 62) : bits .and .i64 (a : Int) (b : Int) = ((a &&& b : Nat) : Int) :=
  (bits_nat .i64 62 (by decide) (fun n h0 h1 => wrap_small h0 (by omega)) a b ha hb).1
theorem i64_or_nat (a b : Nat) (ha : a < 2 ^ 62) (hb : b < 2 ^ 62) : bits .or .i64 (a : Int) (b : Int) = ((a ||| b : Nat) : Int) :=
  (bits_nat .i64 62 (by decide) (fun n h0 h1 => wrap_small h0 (by omega)) a b ha hb).2
theorem shr_nat (m s : Nat) (_ : s ≤ 64) : (m : Int) / 2 ^ s = ((m / 2 ^ s : Nat) : Int) := by
  simp
/-- 1 << s -/
theorem shl_bit {s : Nat} (hs : s < 62) : wrap64 (2 ^ s) = (bit s : Int) := by
  have h1 : (2 : Int) ^ s = ((2 ^ s : Nat) : Int) := by simp
  have h2 : 2 ^ s < 2 ^ 62 := Nat.pow_lt_pow_right (by omega) hs
  rw [h1]
  show _ = ((2 ^ s : Nat) : Int)
  generalize 2 ^ s = k at h2 ⊢
  exact wrap64_small (by omega) (by omega)
theorem shl_bit2 {s : Nat} (hs : s < 62) : IntKind.i64.wrap (2 ^ s) = (bit s : Int) := by
  have h1 : (2 : Int) ^ s = ((2 ^ s : Nat) : Int) := by simp
  have h2 : 2 ^ s < 2 ^ 62 := Nat.pow_lt_pow_right (by omega) hs
  rw [h1]
  show _ = ((2 ^ s : Nat) : Int)
  generalize 2 ^ s = k at h2 ⊢
  exact IntWalk.i64_in _ (by omega)
theorem shl_bit3 {s : Nat} (hs : s < 62) : IntKind.i64.wrap (2 ^ min s 64) = (bit s : Int) := by rw [Nat.min_eq_left (by omega)]; exact shl_bit2 hs
/-- m | 1 << s -/
theorem or_ins {m s : Nat} (hm : m < 2 ^ 62) (hs : s < 62) : bits .or .i64 (m : Int) (bit s : Int) = (ins m s : Int) :=
  i64_or_nat m (bit s) hm (bit_lt hs)
/-- m >> s & 1 -/
theorem and_bit {m s : Nat} (hm : m < 2 ^ 62) (hs : s ≤ 64) : bits .and .i64 ((m : Int) / 2 ^ s) 1 = if m.testBit s = true then 1 else 0 := by
  have h1 : m / 2 ^ s < 2 ^ 62 := Nat.lt_of_le_of_lt (Nat.div_le_self _ _) hm
  rw [shr_nat m s hs, show (1 : Int) = ((1 : Nat) : Int) by rfl, i64_and_nat _ _ h1 (by decide), nat_mask1, Nat.testBit_eq_decide_div_mod_eq]
  have h2 := Nat.mod_two_eq_zero_or_one (m / 2 ^ s)
  rcases h2 with h2 | h2 <;> simp [h2]
theorem bit_on {m s : Nat} (hm : m < 2 ^ 62) (hs : s ≤ 64) (h : m.testBit s = true) : bits .and .i64 ((m : Int) / 2 ^ s) 1 = 1 := by rw [and_bit hm hs, if_pos h]
theorem bit_off {m s : Nat} (hm : m < 2 ^ 62) (hs : s ≤ 64) (h : m.testBit s = false) : bits .and .i64 ((m : Int) / 2 ^ s) 1 = 0 := by rw [and_bit hm hs, if_neg (by simp [h])]
/-- m >> i != 0 -/
theorem shr_on {m i : Nat} (hi : i ≤ 64) (h : 2 ^ i ≤ m) : ((m : Int) / 2 ^ i != 0) = true := by
  rw [shr_nat m i hi]
  have : 0 < m / 2 ^ i := Nat.div_pos h (Nat.two_pow_pos _)
  simp only [bne_iff_ne, ne_eq]; omega
theorem shr_off {m i : Nat} (hi : i ≤ 64) (h : m < 2 ^ i) : ((m : Int) / 2 ^ i != 0) = false := by
  rw [shr_nat m i hi, Nat.div_eq_of_lt h]; rfl
/-- a natural number as one cell -/
def cN (x : Nat) : List Value := [.int .i64 (x : Int)]
theorem cN_len (x : Nat) : (cN x).length = 1 := rfl
theorem cN_one (x : Nat) : ∀ u ∈ cN x, u.oneCell' = true := by intro u hu; simp only [cN, List.mem_cons, List.not_mem_nil, or_false] at hu; subst hu; rfl
theorem SlC.nat {H : Nat} {w : World} {A : Option Addr} {xs : List Nat} (h : SlC H w cN 1 A xs) {i : Nat} {x : Nat} (hx : xs[i]? = some x) : ∃ b o, A = some ⟨b, o, none⟩ ∧ b < H ∧ w.cell? ⟨b, o + i, none⟩ = some (.int .i64 (x : Int)) := by
  obtain ⟨b, o, e, g, h⟩ := h.at_ i x hx
  exact ⟨b, o, e, g, by simpa using h 0 _ rfl⟩
theorem Own.form {α : Type} {lo : Nat} {w : World} {e : TypeId} {E : α → List Value} {k : Nat} {v : Value} {xs : List α} (h : Own lo w.heap.size w e E k v xs) (hE : ∀ x, (E x).length = k) :
    ∃ A c, v = .slice A xs.length c ∧ xs.length ≤ c ∧ c ≤ 9223372036854775807 ∧ SlC w.heap.size w E k A xs := SlE.form ((h.sl hE).all (Nat.le_refl _))
end Go.Proofs.YtpbfdmfkmbdpkaaGreat
