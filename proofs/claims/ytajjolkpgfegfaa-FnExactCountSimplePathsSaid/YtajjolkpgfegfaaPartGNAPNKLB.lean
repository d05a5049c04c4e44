/- Parts of the proof, joined into one text: HelpPair, Tab, AllA. -/
import Derived.Test.YtajjolkpgfegfaaPartEMKLPAPB
import Derived.Test.YtajjolkpgfegfaaPartMLHMDHDM
import Derived.Test.YtajjolkpgfegfaaPartCDOKCKDD
import Derived.Test.YtajjolkpgfegfaaPartBLNKPCEN
import Derived.Test.YtajjolkpgfegfaaPartCPDJAGBF
import Derived.Lib.Slices
import Derived.Test.YtajjolkpgfegfaaPartHIHIBPFG
import Derived.Test.YtajjolkpgfegfaaPartJLIOGPIB
/- Pair in the laws' helpers: equal lists are told equal; marking, looking, copying, measuring. -/
namespace Go.Proofs.Ytajjolkpgfegfaa
set_option linter.unusedVariables false
set_option linter.unusedSimpArgs false
open Go.ChangeShapes Go.WideShapes Go.ChangeAt Go.RowKit
attribute [local go_sem] ext_cell ext_frozen ext_lt ext_lt1 ext_lt2 ext_lt3 ltn2 ltn3 ltn13 lts1 lts2 lts3

theorem eqPair_same (p : Pr) (w : World) :
    Calls Try.prog 105 #[.agg #[.int .i64 p.1, .int .i64 p.2], .agg #[.int .i64 p.1, .int .i64 p.2]] w fun e w' => e = .returned (.bool true) ∧ Below w.heap.size w w' := by
  obtain ⟨a0, a1⟩ := p
  go_enter Try.func105, Try.ntmps105
  go_wp2
  go_ret
  refine ⟨rfl, ?_⟩
  repeat (first | exact Below.refl _ _ | refine Below.alloc ?_ (by simp) _)
set_option maxHeartbeats 400000 in
theorem eqPairS_same (v1 v2 : Value) (xs : List Pr) (w : World) (hv1 : SlE w cPr 2 v1 xs) (hv2 : SlE w cPr 2 v2 xs) :
    Calls Try.prog 55 #[v1, v2] w fun e w' => e = .returned (.bool true) ∧ Below w.heap.size w w' := by
  obtain ⟨A1, c1, rfl, hl1, hm1, hx1⟩ := hv1
  obtain ⟨A2, c2, rfl, hl2, hm2, hx2⟩ := hv2
  unfold maxLen at hm1 hm2
  go_enter Try.func55, Try.ntmps55
  go_wp2
  go_loopw [5] (fun i wr => ∃ (k : Nat) (u : World), k ≤ xs.length ∧ i = .int .i64 k ∧ wr = ext w u) (fun i _ => xs.length - (intOf i).toNat)
  case atStart => exact ⟨0, w, Nat.zero_le _, rfl, ext_self w⟩
  case round =>
    obtain ⟨k, u, hk, rfl, rfl⟩ := hrel
    by_cases hlt : k < xs.length
    · obtain ⟨b1, o1, rfl, -, hb1, hc1⟩ := hx1 k xs[k] (List.getElem?_eq_getElem hlt)
      obtain ⟨b2, o2, rfl, -, hb2, hc2⟩ := hx2 k xs[k] (List.getElem?_eq_getElem hlt)
      generalize xs[k] = x at hc1 hc2
      have c10 := hc1 0 _ rfl
      have c11 := hc1 1 _ rfl
      have c20 := hc2 0 _ rfl
      have c21 := hc2 1 _ rfl
      simp only [Nat.add_zero] at c10 c20
      clear hc1 hc2 hx1 hx2
      go_wp2
      refine wp_region_ext_lit (by kernel_rfl) (by kernel_rfl) ?_
      repeat (go_big_quiet_step ((go_at_call 105; exact Calls.ext_of (eqPair_same x _))))
      refine wpQuiet_nil ?_
      intro _ hw'
      obtain ⟨u2, hw''⟩ := hw'
      subst hw''
      go_wp2
      go_roundw
      case rel =>
        obtain ⟨y, hy⟩ := ext_ext w u u2
        exact ⟨k + 1, y, by omega, by go_num, hy⟩
      case measure => simp [intOf]; omega
    · go_wp2
      go_ret
      exact ⟨rfl, ext_below _ _⟩
def mkPair (k : Int) (n : Nat) : List Pr := (List.range n).map fun (i : Nat) => (k + 2 * (i : Int), k + 2 * (i : Int) + 1)
theorem mkPair_len (k : Int) (n : Nat) : (mkPair k n).length = n := by simp [mkPair]
theorem mkPair_succ (k : Int) (i : Nat) : mkPair k (i + 1) = mkPair k i ++ [(k + 2 * (i : Int), k + 2 * (i : Int) + 1)] := by simp [mkPair, List.range_succ]
theorem mkPair_at (k : Int) {n i : Nat} (h : i < n) : (mkPair k n)[i]? = some (k + 2 * (i : Int), k + 2 * (i : Int) + 1) := by simp [mkPair, h]
theorem flatPair_len (l : List Pr) : (l.flatMap cPr).length = l.length * 2 := by
  induction l with
  | nil => rfl
  | cons x l ih => simp only [List.flatMap_cons, List.length_append, cPr_len, ih, List.length_cons]; omega
theorem markPair_step (k : Int) (xs : List Pr) (i : Nat) (hi : i < xs.length) :
    ((((mkPair k i ++ xs.drop i).flatMap cPr).set (i * 2) (.int .i64 (k + 2 * (i : Int)))).set (i * 2 + 1) (.int .i64 (k + 2 * (i : Int) + 1))) = (mkPair k (i + 1) ++ xs.drop (i + 1)).flatMap cPr := by
  rw [List.drop_eq_getElem_cons hi, mkPair_succ]
  have hl : ((mkPair k i).flatMap cPr).length = i * 2 := by rw [flatPair_len, mkPair_len]
  simp only [List.flatMap_append, List.flatMap_cons, List.flatMap_nil, List.append_nil, List.append_assoc]
  rw [List.set_append_right _ _ (by omega), List.set_append_right _ _ (by omega), hl]
  simp [cPr]
set_option maxHeartbeats 4000000 in
theorem markPairS_any (lo hi : Nat) (e : TypeId) (v : Value) (xs : List Pr) (k : Int) (w : World) (hv : Own lo hi w e cPr 2 v xs) (hk : 0 ≤ k) (hb : k + 2 * xs.length ≤ 4611686018427387904) :
    Calls Try.prog 56 #[v, .int .i64 k] w fun en w' => en = .returned (.int .i64 (k + 2 * xs.length)) ∧ Own lo hi w' e cPr 2 v (mkPair k xs.length) ∧ Only lo hi w w' := by
  obtain ⟨hr, hlt⟩ := hv
  have hr0 := hr
  obtain ⟨hl, hs⟩ := hr0
  rcases hs with ⟨rfl, hn⟩ | ⟨g, cap, cur, rfl, hg, hh, hnc, hcm, hsz, htk⟩
  · obtain rfl : xs = [] := List.eq_nil_of_length_eq_zero hn
    clear hl hr hn hlt
    go_enter Try.func56, Try.ntmps56
    go_wp2
    go_loopw [1, 5] (fun kk ii wr => kk = .int .i64 k ∧ ii = .int .i64 0 ∧ wr = w) (fun _ _ _ => 0)
    case atStart => exact ⟨rfl, rfl, rfl⟩
    case round =>
      obtain ⟨rfl, rfl, rfl⟩ := hrel
      go_wp2
      go_ret
      exact ⟨by simp, by simpa [mkPair] using Own.nil lo hi wr e cPr 2, Only.refl _ _ _⟩
  · have hglt := hlt g rfl
    unfold maxLen at hcm
    have HL := Lib.hid hl
    clear hh htk hsz hlt hl
    go_enter Try.func56, Try.ntmps56
    go_wp2
    go_loopw [1, 5] (fun kk ii wr => ∃ i : Nat, i ≤ xs.length ∧ kk = .int .i64 (k + 2 * i) ∧ ii = .int .i64 i ∧ wr.ownsRow lo e 2 (.slice (some ⟨g, 0, none⟩) xs.length cap) xs.length ((mkPair k i ++ xs.drop i).flatMap cPr) ∧ Only lo hi w wr) (fun _ ii _ => xs.length - (intOf ii).toNat)
    case atStart => exact ⟨0, Nat.zero_le _, by simp, rfl, by simpa [mkPair] using hr, Only.refl _ _ _⟩
    case round =>
      obtain ⟨i, hi', rfl, rfl, hrow, honly⟩ := hrel
      by_cases hlt : i < xs.length
      · have hrow0 := hrow
        have hc0 := World.ownsRow.cellAt hrow (i * 2) (by omega)
        have hf0 := World.ownsRow.frozenAt hrow (i * 2)
        have hc1 := World.ownsRow.cellAt hrow (i * 2 + 1) (by omega)
        have hf1 := World.ownsRow.frozenAt hrow (i * 2 + 1)
        have hst := (World.ownsRow.stored (World.ownsRow.stored hrow0 (i * 2) (.int .i64 (k + 2 * (i : Int)))).1 (i * 2 + 1) (.int .i64 (k + 2 * (i : Int) + 1))).1
        rw [markPair_step k xs i hlt] at hst
        have HST := Lib.hid hst
        have hxi : (mkPair k i ++ xs.drop i)[i]? = some xs[i] := by
          rw [List.getElem?_append_right (by simp [mkPair_len]), mkPair_len]; simp [hlt]
        have hcx0 : ((mkPair k i ++ xs.drop i).flatMap cPr)[i * 2]? = some (.int .i64 xs[i].1) := flat_at cPr_len hxi 0 _ rfl
        rw [hcx0] at hc0
        have hcx1 : ((mkPair k i ++ xs.drop i).flatMap cPr)[i * 2 + 1]? = some (.int .i64 xs[i].2) := flat_at cPr_len hxi 1 _ rfl
        rw [hcx1] at hc1
        clear hcx0 hcx1 hxi hst hrow hrow0 hr
        go_wp2
        go_roundw
        case rel => exact ⟨i + 1, by omega, by go_num, by go_num, HST.out, ((honly.setCell (.inl ⟨hg, hglt⟩) _).setCell (.inl ⟨hg, hglt⟩) _)⟩
        case measure => simp [intOf]; omega
      · obtain rfl : i = xs.length := by omega
        have hown : Own lo hi wr e cPr 2 (.slice (some ⟨g, 0, none⟩) xs.length cap) (mkPair k xs.length) := by
          refine ⟨?_, fun g' hg' => by cases hg'; exact hglt⟩
          rw [mkPair_len]
          simpa using hrow
        clear hrow hr
        go_wp2
        go_ret
        exact ⟨rfl, hown, honly⟩
set_option maxHeartbeats 4000000 in
theorem heldPairS_any (v : Value) (n : Nat) (k : Int) (w : World) (hv : SlE w cPr 2 v (mkPair k n)) (hk : 0 ≤ k) (hb : k + 2 * n ≤ 4611686018427387904) :
    Calls Try.prog 57 #[v, .int .i64 k] w fun en w' => en = .returned (.int .i64 (k + 2 * n)) ∧ Below w.heap.size w w' := by
  obtain ⟨A, c, rfl, hl, hm, hx⟩ := hv
  rw [mkPair_len] at hl
  simp only [mkPair_len]
  unfold maxLen at hm
  go_enter Try.func57, Try.ntmps57
  go_wp2
  go_loopw [1, 5] (fun kk ii wr => ∃ (i : Nat) (u : World), i ≤ n ∧ kk = .int .i64 (k + 2 * i) ∧ ii = .int .i64 i ∧ wr = ext w u) (fun _ ii _ => n - (intOf ii).toNat)
  case atStart => exact ⟨0, w, Nat.zero_le _, by simp, rfl, ext_self w⟩
  case round =>
    obtain ⟨i, u, hi', rfl, rfl, rfl⟩ := hrel
    by_cases hlt : i < n
    · obtain ⟨b, o, rfl, -, hb1, hc⟩ := hx i _ (mkPair_at k hlt)
      have c0 := hc 0 _ rfl
      have c1 := hc 1 _ rfl
      simp only [Nat.add_zero] at c0
      clear hc hx
      go_wp2
      go_roundw
      case rel => exact ⟨i + 1, u, by omega, by go_num, by go_num, rfl⟩
      case measure => simp [intOf]; omega
    · obtain rfl : i = n := by omega
      go_wp2
      go_ret
      exact ⟨rfl, ext_below _ _⟩
theorem elPair : ElemOk Try.prog 67 105 (.agg #[.int .i64 0, .int .i64 0]) 2 16 := ⟨Try.underlying67, by kernel_rfl, rfl, by omega⟩
end Go.Proofs.Ytajjolkpgfegfaa

/- DistanceTable and LongestShortest, the program's and the reference's. -/
namespace Go.Proofs.Ytajjolkpgfegfaa
set_option linter.unusedVariables false
set_option linter.unusedSimpArgs false
open Go.ChangeShapes Go.WideShapes Go.ChangeAt Go.RowKit
attribute [local go_sem] ext_cell ext_frozen ext_lt ext_lt1 ext_lt2 ext_lt3 ltn2 ltn3 ltn13 lts1 lts2 lts3

def tabRow (g : Gr) (a : Au) (x k : Nat) : List Int := (List.range k).map fun (y : Nat) => shortLen g a (x : Int) (y : Int)
def tabTo (g : Gr) (a : Au) (k : Nat) : List (List Int) := (List.range k).map fun (x : Nat) => tabRow g a x g.vals.length
def tabL (g : Gr) (a : Au) : List (List Int) := if (grOk g && auOk a) = true then tabTo g a g.vals.length else []
theorem tabRow_len (g : Gr) (a : Au) (x k : Nat) : (tabRow g a x k).length = k := by simp [tabRow]
theorem tabRow_snoc (g : Gr) (a : Au) (x k : Nat) : tabRow g a x (k + 1) = tabRow g a x k ++ [shortLen g a (x : Int) (k : Int)] := by simp [tabRow, List.range_succ]
theorem tabTo_len (g : Gr) (a : Au) (k : Nat) : (tabTo g a k).length = k := by simp [tabTo]
theorem tabTo_snoc (g : Gr) (a : Au) (k : Nat) : tabTo g a (k + 1) = tabTo g a k ++ [tabRow g a k g.vals.length] := by simp [tabTo, List.range_succ]
theorem goodB00 (g : Gr) (a : Au) : goodB g a 0 0 = (grOk g && auOk a) := by
  rw [goodB0]
  cases hg : grOk g with
  | false => simp
  | true =>
    have h1 := (grOk_iff.1 hg).n1
    have h2 : wi 0 0 ((g.vals.length : Int) - 1) = true := wi_iff.2 (by omega)
    rw [h2]
    cases auOk a <;> simp

set_option maxHeartbeats 4000000 in
set_option maxRecDepth 100000 in
theorem implDistanceTable (vg va : Value) (g : Gr) (a : Au) (w : World) (hgv : GrV 0 w.heap.size w vg g) (hav : AuV 0 w.heap.size w va a) :
    Calls Try.prog 37 #[vg, va] w fun e w' => ∃ v' us, e = .returned v' ∧ NS w.heap.size w' 22 3 cI 1 v' us (tabL g a) ∧ Below w.heap.size w w' := by
  have hgv0 := hgv
  have hav0 := hav
  obtain ⟨A1, c1, A2, c2, rfl, hl1, hm1, hl2, hm2, -, -⟩ := hgv.form
  obtain ⟨A3, n3, c3, A4, n4, c4, rfl⟩ := hav.shape
  have hb0 : Below w.heap.size w ((w.alloc (.cells #[.slice A1 g.vals.length c1, .slice A2 g.edges.length c2] 35)).alloc (.cells #[.int .i64 a.start, .slice A3 n3 c3, .slice A4 n4 c4] 37)) := ((Below.refl _ _).alloc (Nat.le_refl _) _).alloc (by simp) _
  have HGV := Lib.hid hgv0
  have HAV := Lib.hid hav0
  obtain ⟨T, hT⟩ : ∃ T, T = tabL g a := ⟨_, rfl⟩
  rw [← hT]
  clear hgv hav hgv0 hav0
  go_enter Try.func37, Try.ntmps37
  go_wp2_with fail
  obtain ⟨W0, hW0⟩ : ∃ W0, W0 = ((w.alloc (.cells #[.slice A1 g.vals.length c1, .slice A2 g.edges.length c2] 35)).alloc (.cells #[.int .i64 a.start, .slice A3 n3 c3, .slice A4 n4 c4] 37)) := ⟨_, rfl⟩
  rw [← hW0] at hb0 ⊢
  have x0 : W0.cell? ⟨w.heap.size, 0, none⟩ = some (.slice A1 g.vals.length c1) := by rw [hW0]; simp
  have x1 : W0.cell? ⟨w.heap.size, 1, none⟩ = some (.slice A2 g.edges.length c2) := by rw [hW0]; simp
  have y0 : W0.cell? ⟨w.heap.size + 1, 0, none⟩ = some (.int .i64 a.start) := by rw [hW0]; simp
  have y1 : W0.cell? ⟨w.heap.size + 1, 1, none⟩ = some (.slice A3 n3 c3) := by rw [hW0]; simp
  have y2 : W0.cell? ⟨w.heap.size + 1, 2, none⟩ = some (.slice A4 n4 c4) := by rw [hW0]; simp
  have hs0 : w.heap.size + 1 + 1 = W0.heap.size := by rw [hW0]; simp
  try rw [hs0]
  have l0 : w.heap.size + 1 < W0.heap.size := by omega
  have l00 : w.heap.size < W0.heap.size := by omega
  clear hW0 hs0
  have hbo := bothOk_any _ _ (.slice none 0 0) g a [] W0 (HGV.out.keep hb0) (HAV.out.keep hb0) (SlI.nil _ _ _ _ _)
  rw [List.all_nil, Bool.true_and] at hbo
  have HBO := Lib.hid hbo
  clear hbo
  cases hk : (grOk g && auOk a) with
  | false =>
    rw [hk] at HBO
    have hr0 : T = [] := by rw [hT, tabL, hk]; rfl
    subst hr0
    clear hk hT
    refine HBO.out.mono ?_
    rintro e w1 ⟨rfl, hb1⟩
    go_wp2_with fail
    go_ret
    exact ⟨_, [], rfl, NS.start (World.ownsRow_nil _ _ _ _), below_trans hb0 hb1⟩
  | true =>
    rw [hk] at HBO
    have hT2 : T = tabTo g a g.vals.length := by rw [hT, tabL, hk]; rfl
    have hn5 := (grOk_iff.1 (Bool.and_eq_true .. ▸ hk).1).n5
    have hn1 := (grOk_iff.1 (Bool.and_eq_true .. ▸ hk).1).n1
    have HT := Lib.hid hT2
    clear hk hT hT2
    refine HBO.out.mono ?_
    rintro e w1 ⟨rfl, hb1⟩
    obtain ⟨W1, rfl⟩ : ∃ W1 : World, W1 = W0 := ⟨_, rfl⟩
    have x0 := kcell hb1 x0
    have x1 := kcell hb1 x1
    have y0 := kcell hb1 y0
    have y1 := kcell hb1 y1
    have y2 := kcell hb1 y2
    have hb0 := below_trans hb0 hb1
    have l0 := Nat.lt_of_lt_of_le l0 hb1.size
    have l00 := Nat.lt_of_lt_of_le l00 hb1.size
    obtain ⟨W0, rfl⟩ : ∃ W0 : World, W0 = w1 := ⟨_, rfl⟩
    clear hb1
    go_wp2_with fail
    go_loopw [5, 17] (fun oo ii wr => ∃ (i : Nat) (us : List Value), i ≤ g.vals.length ∧ ii = .int .i64 (i : Int) ∧ NS W0.heap.size wr 22 3 cI 1 oo us (tabTo g a i) ∧ Below W0.heap.size W0 wr) (fun _ ii _ => g.vals.length - (intOf ii).toNat)
    case atStart => exact ⟨0, [], Nat.zero_le _, rfl, NS.start (World.ownsRow_lit W0 #[] 0 (Nat.le_refl _) (by decide) rfl), (Below.refl _ _).alloc (Nat.le_refl _) _⟩
    case round =>
      obtain ⟨i, us, hi, rfl, hns, hbel⟩ := hrel
      have HNS := Lib.hid hns
      have x0 := (hbel.cell (p := ⟨w.heap.size, 0, none⟩) (by simp only; omega)).trans x0
      have x1 := (hbel.cell (p := ⟨w.heap.size, 1, none⟩) (by simp only; omega)).trans x1
      have y0 := (hbel.cell (p := ⟨w.heap.size + 1, 0, none⟩) (by simp only; omega)).trans y0
      have y1 := (hbel.cell (p := ⟨w.heap.size + 1, 1, none⟩) (by simp only; omega)).trans y1
      have y2 := (hbel.cell (p := ⟨w.heap.size + 1, 2, none⟩) (by simp only; omega)).trans y2
      have hsz := hbel.size
      have l0 := Nat.lt_of_lt_of_le l0 hsz
      have l00 := Nat.lt_of_lt_of_le l00 hsz
      have hbw := hb0.trans (hbel.mono (show w.heap.size ≤ W0.heap.size by omega))
      have HBW := Lib.hid hbw
      clear hns hbw
      by_cases hlt : i < g.vals.length
      · have hii : (i : Int) < (g.vals.length : Int) := by omega
        have HTS := Lib.hid (tabTo_snoc g a i)
        have hus := HNS.out.len
        have htl := tabTo_len g a i
        obtain ⟨w5, rfl⟩ : ∃ w5 : World, w5 = wr := ⟨_, rfl⟩
        have hul : us.length ≤ 5 := by omega
        have HUS := Lib.hid (show us.length = i by omega)
        clear hus htl
        generalize tabTo g a i = TL at *
        go_wp2_with fail
        go_loopw [7, 24] (fun rr jj wr => ∃ j : Nat, j ≤ g.vals.length ∧ jj = .int .i64 (j : Int) ∧ wr.ownsRow w5.heap.size 3 1 rr (tabRow g a i j).length ((tabRow g a i j).flatMap cI) ∧ Below w5.heap.size w5 wr) (fun _ jj _ => g.vals.length - (intOf jj).toNat)
        case atStart => exact ⟨0, Nat.zero_le _, rfl, World.ownsRow_lit w5 #[] 0 (Nat.le_refl _) (by decide) rfl, (Below.refl _ _).alloc (Nat.le_refl _) _⟩
        case round =>
          obtain ⟨j, hj, rfl, hrow, hbel2⟩ := hrel
          have HROW := Lib.hid hrow
          have x0 := kcell hbel2 x0
          have x1 := kcell hbel2 x1
          have y0 := kcell hbel2 y0
          have y1 := kcell hbel2 y1
          have y2 := kcell hbel2 y2
          have hsz2 := hbel2.size
          have l0 := Nat.lt_of_lt_of_le l0 hsz2
          have l00 := Nat.lt_of_lt_of_le l00 hsz2
          have hrl := tabRow_len g a i j
          have HBW2 := Lib.hid (below_trans HBW.out hbel2)
          clear hrow
          by_cases hlj : j < g.vals.length
          · have hjj : (j : Int) < (g.vals.length : Int) := by omega
            have HRS := Lib.hid (tabRow_snoc g a i j)
            have hrl2 : (tabRow g a i j).length ≤ 5 := by omega
            have HSH := Lib.hid (fun (W : World) (hW : Below w.heap.size w W) => implShortestLength _ _ g a (i : Int) (j : Int) W (HGV.out.keep hW) (HAV.out.keep hW))
            clear hrl
            generalize tabRow g a i j = RL at *
            generalize shortLen g a (i : Int) (j : Int) = sl at *
            go_wp2_with fail
            refine (HSH.out _ HBW2.out).mono ?_
            rintro e w6 ⟨rfl, hb6⟩
            have HR6 := Lib.hid (ownsRow_below HROW.out hb6 (Nat.le_refl _))
            have hs6 := hb6.size
            go_wp2_with (at_builtin; (refine wpList_append1 cI elInt rfl _ _ rfl w5.heap.size _ RL sl _ 1 _ (by rfl) HR6.out (by rfl) rfl rfl rfl (cI_one _) (by omega) (by omega) (by omega) ?_); intro v' w4 hrow' hb4 _ _)
            go_roundw
            case rel => exact ⟨j + 1, by omega, by go_num, by rw [HRS.out]; exact hrow', (hbel2.trans (hb6.mono hsz2)).trans hb4⟩
            case measure => simp [intOf]; omega
          · obtain rfl : j = g.vals.length := by omega
            have hrow := HROW.out
            rw [hrl] at hrow
            obtain ⟨gb, cb, rfl, hgb, hgb2, -, -⟩ := own_some hrow (by omega)
            have HN2 := Lib.hid (HNS.out.below hbel2)
            clear hrow hrl
            generalize tabRow g a i g.vals.length = RL at *
            go_wp2_with (at_builtin; (refine wpList_append1 cV elSS rfl _ _ rfl (W0.heap.size) _ us (.slice (some ⟨gb, 0, none⟩) g.vals.length cb) _ 1 _ (by rfl) HN2.out.own (by rfl) rfl rfl rfl (by intro u hu; simp only [cV, List.mem_cons, List.not_mem_nil, or_false] at hu; subst hu; rfl) (by omega) (by omega) (by omega) ?_); intro v' w4 hrow' hb4 hat4 hgr4)
            go_roundw
            case rel =>
              have hat2 : ∀ g1, v'.ownBlock = some g1 → Value.ownBlock _ = some g1 ∨ wr.heap.size ≤ g1 := fun g1 hg1 => by
                rcases hat4 with h1 | ⟨g2, h1, h2⟩
                · exact .inl (by rw [← h1]; exact hg1)
                · rw [h1] at hg1
                  injection hg1 with hg1
                  exact .inr (by omega)
              exact ⟨i + 1, us ++ [.slice (some ⟨gb, 0, none⟩) g.vals.length cb], by omega, by go_num, by rw [HTS.out]; exact HN2.out.push (ownsRow_mono HROW.out (by omega)) (fun b hb hm => by cases hb; have h1 := (HNS.out.lt gb hm).2; omega) (grown_alloc hgr4) hrow' hat2, (hbel.trans (hbel2.mono (by omega))).trans hb4⟩
            case measure => simp [intOf]; omega
      · obtain rfl : i = g.vals.length := by omega
        rw [← HT.out] at HNS
        obtain ⟨A9, c9, rfl, -, -⟩ := HNS.out.shape
        have HNM := Lib.hid (HNS.out.mono (show w.heap.size ≤ W0.heap.size by omega))
        go_wp2_with fail
        go_ret
        exact ⟨_, _, rfl, HNM.out, HBW.out⟩

set_option maxHeartbeats 4000000 in
set_option maxRecDepth 100000 in
theorem specDistanceTable (vg va : Value) (g : Gr) (a : Au) (w : World) (hgv : GrV 0 w.heap.size w vg g) (hav : AuV 0 w.heap.size w va a) :
    Calls Try.prog 36 #[vg, va] w fun e w' => ∃ v' us, e = .returned v' ∧ NS w.heap.size w' 22 3 cI 1 v' us (tabL g a) ∧ Below w.heap.size w w' := by
  have hgv0 := hgv
  have hav0 := hav
  obtain ⟨A1, c1, A2, c2, rfl, hl1, hm1, hl2, hm2, -, -⟩ := hgv.form
  obtain ⟨A3, n3, c3, A4, n4, c4, rfl⟩ := hav.shape
  have hb0 : Below w.heap.size w ((w.alloc (.cells #[.slice A1 g.vals.length c1, .slice A2 g.edges.length c2] 35)).alloc (.cells #[.int .i64 a.start, .slice A3 n3 c3, .slice A4 n4 c4] 37)) := ((Below.refl _ _).alloc (Nat.le_refl _) _).alloc (by simp) _
  have HGV := Lib.hid hgv0
  have HAV := Lib.hid hav0
  obtain ⟨T, hT⟩ : ∃ T, T = tabL g a := ⟨_, rfl⟩
  rw [← hT]
  clear hgv hav hgv0 hav0
  go_enter Try.func36, Try.ntmps36
  go_wp2_with fail
  obtain ⟨W0, hW0⟩ : ∃ W0, W0 = ((w.alloc (.cells #[.slice A1 g.vals.length c1, .slice A2 g.edges.length c2] 35)).alloc (.cells #[.int .i64 a.start, .slice A3 n3 c3, .slice A4 n4 c4] 37)).alloc (.cells #[] 22) := ⟨_, rfl⟩
  have hb0 : Below w.heap.size w W0 := by rw [hW0]; exact hb0.alloc hb0.size _
  rw [← hW0]
  have bx : Blk W0 w.heap.size 35 #[.slice A1 g.vals.length c1, .slice A2 g.edges.length c2] := by rw [hW0]; exact ((Blk.new w _ _ w.heap.size rfl).alloc _).alloc _
  have by_ : Blk W0 (w.heap.size + 1) 37 #[.int .i64 a.start, .slice A3 n3 c3, .slice A4 n4 c4] := by rw [hW0]; exact (Blk.new (w.alloc _) _ _ (w.heap.size + 1) (by simp)).alloc _
  have x0 : W0.cell? ⟨w.heap.size, 0, none⟩ = some (.slice A1 g.vals.length c1) := by exact bx.cell 0
  have x1 : W0.cell? ⟨w.heap.size, 1, none⟩ = some (.slice A2 g.edges.length c2) := by exact bx.cell 1
  have y0 : W0.cell? ⟨w.heap.size + 1, 0, none⟩ = some (.int .i64 a.start) := by exact by_.cell 0
  have y1 : W0.cell? ⟨w.heap.size + 1, 1, none⟩ = some (.slice A3 n3 c3) := by exact by_.cell 1
  have y2 : W0.cell? ⟨w.heap.size + 1, 2, none⟩ = some (.slice A4 n4 c4) := by exact by_.cell 2
  have l0 := by_.lt
  have l00 := bx.lt
  have hrow0 : W0.ownsRow (w.heap.size + 1 + 1) 22 1 (.slice (some ⟨w.heap.size + 1 + 1, 0, none⟩) 0 0) 0 [] := by
    rw [hW0]
    have h := World.ownsRow_lit (base := w.heap.size + 1 + 1) (e := 22) (size := 1) ((w.alloc (.cells #[.slice A1 g.vals.length c1, .slice A2 g.edges.length c2] 35)).alloc (.cells #[.int .i64 a.start, .slice A3 n3 c3, .slice A4 n4 c4] 37)) #[] 0 (by simp) (by decide) rfl
    simpa using h
  have HROW0 := Lib.hid hrow0
  have hsW : W0.heap.size = w.heap.size + 1 + 1 + 1 := by rw [hW0]; simp
  have HSW := Lib.hid hsW
  clear hW0 bx by_ hrow0 hsW
  have hgx := l14Good_any _ _ g a 0 0 W0 (HGV.out.keep hb0) (HAV.out.keep hb0)
  rw [goodB00] at hgx
  have HGX := Lib.hid hgx
  clear hgx
  cases hk : (grOk g && auOk a) with
  | false =>
    rw [hk] at HGX
    have hr0 : T = [] := by rw [hT, tabL, hk]; rfl
    subst hr0
    clear hk hT
    refine HGX.out.mono ?_
    rintro e w1 ⟨rfl, hb1⟩
    have hr1 := Lib.hid (ownsRow_mono (b := w.heap.size) (ownsRow_below HROW0.out hb1 (Nat.le_refl _)) (by omega))
    go_wp2_with fail
    go_ret
    exact ⟨_, [], rfl, NS.start hr1.out, below_trans hb0 hb1⟩
  | true =>
    rw [hk] at HGX
    have hT2 : T = tabTo g a g.vals.length := by rw [hT, tabL, hk]; rfl
    have hn5 := (grOk_iff.1 (Bool.and_eq_true .. ▸ hk).1).n5
    have hn1 := (grOk_iff.1 (Bool.and_eq_true .. ▸ hk).1).n1
    have HT := Lib.hid hT2
    clear hk hT hT2
    refine HGX.out.mono ?_
    rintro e w1 ⟨rfl, hb1⟩
    have HR1 := Lib.hid (ownsRow_below HROW0.out hb1 (Nat.le_refl _))
    have hz1 : w.heap.size + 1 + 1 ≤ w1.heap.size := by have := HSW.out; have := hb1.size; omega
    obtain ⟨gB, hgB⟩ : ∃ gB, gB = w.heap.size + 1 + 1 := ⟨_, rfl⟩
    obtain ⟨W1, rfl⟩ : ∃ W1 : World, W1 = W0 := ⟨_, rfl⟩
    have x0 := kcell hb1 x0
    have x1 := kcell hb1 x1
    have y0 := kcell hb1 y0
    have y1 := kcell hb1 y1
    have y2 := kcell hb1 y2
    have hb0 := below_trans hb0 hb1
    have l0 := Nat.lt_of_lt_of_le l0 hb1.size
    have l00 := Nat.lt_of_lt_of_le l00 hb1.size
    obtain ⟨W0, rfl⟩ : ∃ W0 : World, W0 = w1 := ⟨_, rfl⟩
    clear hb1
    go_wp2_with fail
    rw [← hgB] at HR1 hz1 ⊢
    have hgBl : w.heap.size + 1 < gB := by omega
    clear hgB
    go_loopw [5, 6] (fun oo ii wr => ∃ (i : Nat) (us : List Value), i ≤ g.vals.length ∧ ii = .int .i64 (i : Int) ∧ NS gB wr 22 3 cI 1 oo us (tabTo g a i) ∧ Below gB W0 wr) (fun _ ii _ => g.vals.length - (intOf ii).toNat)
    case atStart => exact ⟨0, [], Nat.zero_le _, rfl, NS.start HR1.out, Below.refl _ _⟩
    case round =>
      obtain ⟨i, us, hi, rfl, hns, hbel⟩ := hrel
      have HNS := Lib.hid hns
      have x0 := (hbel.cell (p := ⟨w.heap.size, 0, none⟩) (by simp only; omega)).trans x0
      have x1 := (hbel.cell (p := ⟨w.heap.size, 1, none⟩) (by simp only; omega)).trans x1
      have y0 := (hbel.cell (p := ⟨w.heap.size + 1, 0, none⟩) (by simp only; omega)).trans y0
      have y1 := (hbel.cell (p := ⟨w.heap.size + 1, 1, none⟩) (by simp only; omega)).trans y1
      have y2 := (hbel.cell (p := ⟨w.heap.size + 1, 2, none⟩) (by simp only; omega)).trans y2
      have hsz := hbel.size
      have l0 := Nat.lt_of_lt_of_le l0 hsz
      have l00 := Nat.lt_of_lt_of_le l00 hsz
      have hbw := hb0.trans (hbel.mono (show w.heap.size ≤ gB by omega))
      have HBW := Lib.hid hbw
      clear hns hbw
      by_cases hlt : i < g.vals.length
      · have hii : (i : Int) < (g.vals.length : Int) := by omega
        have HTS := Lib.hid (tabTo_snoc g a i)
        have hus := HNS.out.len
        have htl := tabTo_len g a i
        obtain ⟨w5, rfl⟩ : ∃ w5 : World, w5 = wr := ⟨_, rfl⟩
        have hul : us.length ≤ 5 := by omega
        have HUS := Lib.hid (show us.length = i by omega)
        clear hus htl
        generalize tabTo g a i = TL at *
        go_wp2_with fail
        go_loopw [7, 8] (fun rr jj wr => ∃ j : Nat, j ≤ g.vals.length ∧ jj = .int .i64 (j : Int) ∧ wr.ownsRow w5.heap.size 3 1 rr (tabRow g a i j).length ((tabRow g a i j).flatMap cI) ∧ Below w5.heap.size w5 wr) (fun _ jj _ => g.vals.length - (intOf jj).toNat)
        case atStart => exact ⟨0, Nat.zero_le _, rfl, World.ownsRow_lit w5 #[] 0 (Nat.le_refl _) (by decide) rfl, (Below.refl _ _).alloc (Nat.le_refl _) _⟩
        case round =>
          obtain ⟨j, hj, rfl, hrow, hbel2⟩ := hrel
          have HROW := Lib.hid hrow
          have x0 := kcell hbel2 x0
          have x1 := kcell hbel2 x1
          have y0 := kcell hbel2 y0
          have y1 := kcell hbel2 y1
          have y2 := kcell hbel2 y2
          have hsz2 := hbel2.size
          have l0 := Nat.lt_of_lt_of_le l0 hsz2
          have l00 := Nat.lt_of_lt_of_le l00 hsz2
          have hrl := tabRow_len g a i j
          have HBW2 := Lib.hid (below_trans HBW.out hbel2)
          clear hrow
          by_cases hlj : j < g.vals.length
          · have hjj : (j : Int) < (g.vals.length : Int) := by omega
            have HRS := Lib.hid (tabRow_snoc g a i j)
            have hrl2 : (tabRow g a i j).length ≤ 5 := by omega
            have HSH := Lib.hid (fun (W : World) (hW : Below w.heap.size w W) => specShortestLength _ _ g a (i : Int) (j : Int) W (HGV.out.keep hW) (HAV.out.keep hW))
            clear hrl
            generalize tabRow g a i j = RL at *
            generalize shortLen g a (i : Int) (j : Int) = sl at *
            go_wp2_with fail
            refine (HSH.out _ HBW2.out).mono ?_
            rintro e w6 ⟨rfl, hb6⟩
            have HR6 := Lib.hid (ownsRow_below HROW.out hb6 (Nat.le_refl _))
            have hs6 := hb6.size
            go_wp2_with (at_builtin; (refine wpList_append1 cI elInt rfl _ _ rfl w5.heap.size _ RL sl _ 1 _ (by rfl) HR6.out (by rfl) rfl rfl rfl (cI_one _) (by omega) (by omega) (by omega) ?_); intro v' w4 hrow' hb4 _ _)
            go_roundw
            case rel => exact ⟨j + 1, by omega, by go_num, by rw [HRS.out]; exact hrow', (hbel2.trans (hb6.mono hsz2)).trans hb4⟩
            case measure => simp [intOf]; omega
          · obtain rfl : j = g.vals.length := by omega
            have hrow := HROW.out
            rw [hrl] at hrow
            obtain ⟨gb, cb, rfl, hgb, hgb2, -, -⟩ := own_some hrow (by omega)
            have HN2 := Lib.hid (HNS.out.below hbel2)
            clear hrow hrl
            generalize tabRow g a i g.vals.length = RL at *
            go_wp2_with (at_builtin; (refine wpList_append1 cV elSS rfl _ _ rfl (gB) _ us (.slice (some ⟨gb, 0, none⟩) g.vals.length cb) _ 1 _ (by rfl) HN2.out.own (by rfl) rfl rfl rfl (by intro u hu; simp only [cV, List.mem_cons, List.not_mem_nil, or_false] at hu; subst hu; rfl) (by omega) (by omega) (by omega) ?_); intro v' w4 hrow' hb4 hat4 hgr4)
            go_roundw
            case rel =>
              have hat2 : ∀ g1, v'.ownBlock = some g1 → Value.ownBlock _ = some g1 ∨ wr.heap.size ≤ g1 := fun g1 hg1 => by
                rcases hat4 with h1 | ⟨g2, h1, h2⟩
                · exact .inl (by rw [← h1]; exact hg1)
                · rw [h1] at hg1
                  injection hg1 with hg1
                  exact .inr (by omega)
              exact ⟨i + 1, us ++ [.slice (some ⟨gb, 0, none⟩) g.vals.length cb], by omega, by go_num, by rw [HTS.out]; exact HN2.out.push (ownsRow_mono HROW.out (by omega)) (fun b hb hm => by cases hb; have h1 := (HNS.out.lt gb hm).2; omega) (grown_alloc hgr4) hrow' hat2, (hbel.trans (hbel2.mono (by omega))).trans hb4⟩
            case measure => simp [intOf]; omega
      · obtain rfl : i = g.vals.length := by omega
        rw [← HT.out] at HNS
        obtain ⟨A9, c9, rfl, -, -⟩ := HNS.out.shape
        have HNM := Lib.hid (HNS.out.mono (show w.heap.size ≤ gB by omega))
        go_wp2_with fail
        go_ret
        exact ⟨_, _, rfl, HNM.out, HBW.out⟩

/-! ### The longest one -/
def longL (g : Gr) (a : Au) : Int := (tabL g a).flatten.foldl max (-1)
def bestTo (T : List (List Int)) (i : Nat) : Int := (T.take i).flatten.foldl max (-1)
theorem bestTo_snoc {T : List (List Int)} {i : Nat} {r : List Int} (h : T[i]? = some r) : bestTo T (i + 1) = r.foldl max (bestTo T i) := by
  rw [bestTo, take_snoc h, List.flatten_append, List.foldl_append]
  simp [bestTo]
theorem foldl_max (t : List Int) : ∀ b h : Int, t.foldl max (max b h) = max b (t.foldl max h) := by
  induction t with
  | nil => intro b h; rfl
  | cons x t ih => intro b h; rw [List.foldl_cons, List.foldl_cons, ← ih, Int.max_assoc]
theorem max_row {r : List Int} (h : r ≠ []) (b : Int) : r.foldl max b = max b (Lib.maxOf r) := by
  cases r with
  | nil => exact absurd rfl h
  | cons x t => rw [List.foldl_cons, foldl_max]; simp [Lib.maxOf]
theorem tabL_rows {g : Gr} {a : Au} {i : Nat} {r : List Int} (h : (tabL g a)[i]? = some r) : r.length ≠ 0 ∧ r.length ≤ 5 := by
  unfold tabL at h
  split at h
  · rename_i hk
    simp only [Bool.and_eq_true] at hk
    have hg := grOk_iff.1 hk.1
    obtain ⟨x, -, rfl⟩ := List.mem_map.1 (List.mem_of_getElem? h)
    rw [tabRow_len]
    have := hg.n1
    have := hg.n5
    omega
  · simp at h
theorem tabL_len (g : Gr) (a : Au) : (tabL g a).length ≤ 5 := by
  unfold tabL
  split
  · rename_i hk
    simp only [Bool.and_eq_true] at hk
    rw [tabTo_len]
    exact (grOk_iff.1 hk.1).n5
  · simp
end Go.Proofs.Ytajjolkpgfegfaa

/- AllAnswers on both sides. -/
namespace Go.Proofs.Ytajjolkpgfegfaa
set_option linter.unusedVariables false
set_option linter.unusedSimpArgs false
open Go.ChangeShapes Go.WideShapes Go.ChangeAt Go.RowKit
attribute [local go_sem] ext_cell ext_frozen ext_lt ext_lt1 ext_lt2 ext_lt3 ltn2 ltn3 ltn13 lts1 lts2 lts3

def allRow (g : Gr) (a : Au) (x k : Nat) : List Pr := ((ansL g a (x : Int)).take k).map fun y => ((x : Int), y)
def allTo (g : Gr) (a : Au) (i : Nat) : List Pr := (List.range i).flatMap fun (x : Nat) => allRow g a x (ansL g a (x : Int)).length
def allL (g : Gr) (a : Au) : List Pr := if (grOk g && auOk a) = true then allTo g a g.vals.length else []
theorem allRow_zero (g : Gr) (a : Au) (x : Nat) : allRow g a x 0 = [] := by simp [allRow]
theorem allRow_snoc {g : Gr} {a : Au} {x k : Nat} {y : Int} (h : (ansL g a (x : Int))[k]? = some y) : allRow g a x (k + 1) = allRow g a x k ++ [((x : Int), y)] := by
  rw [allRow, take_snoc h, List.map_append]; rfl
theorem allRow_len (g : Gr) (a : Au) (x k : Nat) : (allRow g a x k).length ≤ 30 := by
  have := ansL_len g a (x : Int)
  simp only [allRow, List.length_map, List.length_take]; omega
theorem allTo_snoc (g : Gr) (a : Au) (i : Nat) : allTo g a (i + 1) = allTo g a i ++ allRow g a i (ansL g a (i : Int)).length := by
  simp [allTo, List.range_succ]
theorem allTo_len (g : Gr) (a : Au) (i : Nat) : (allTo g a i).length ≤ 30 * i := by
  induction i with
  | zero => simp [allTo]
  | succ i ih =>
    have := allRow_len g a i (ansL g a (i : Int)).length
    rw [allTo_snoc, List.length_append]; omega
theorem allL_len (g : Gr) (a : Au) : (allL g a).length ≤ 150 := by
  unfold allL
  split
  · rename_i h
    simp only [Bool.and_eq_true] at h
    have := (grOk_iff.1 h.1).n5
    have := allTo_len g a g.vals.length
    omega
  · simp

set_option maxHeartbeats 4000000 in
set_option maxRecDepth 100000 in
theorem implAllAnswers (vg va : Value) (g : Gr) (a : Au) (w : World) (hgv : GrV 0 w.heap.size w vg g) (hav : AuV 0 w.heap.size w va a) :
    Calls Try.prog 54 #[vg, va] w fun e w' => ∃ v', e = .returned v' ∧ Own w.heap.size w'.heap.size w' 105 cPr 2 v' (allL g a) ∧ Below w.heap.size w w' := by
  obtain ⟨R, hR⟩ : ∃ R, R = allL g a := ⟨_, rfl⟩
  rw [← hR]
  have hgv0 := hgv
  have hav0 := hav
  obtain ⟨A1, c1, A2, c2, rfl, hl1, hm1, hl2, hm2, -, -⟩ := hgv.form
  obtain ⟨A3, n3, c3, A4, n4, c4, rfl⟩ := hav.shape
  have hb0 : Below w.heap.size w ((w.alloc (.cells #[.slice A1 g.vals.length c1, .slice A2 g.edges.length c2] 35)).alloc (.cells #[.int .i64 a.start, .slice A3 n3 c3, .slice A4 n4 c4] 37)) := ((Below.refl _ _).alloc (Nat.le_refl _) _).alloc (by simp) _
  have HGV := Lib.hid hgv0
  have HAV := Lib.hid hav0
  have HRR := Lib.hid hR
  clear hgv hav hgv0 hav0 hR
  go_enter Try.func54, Try.ntmps54
  go_wp2_with fail
  obtain ⟨W0, hW0⟩ : ∃ W0, W0 = ((w.alloc (.cells #[.slice A1 g.vals.length c1, .slice A2 g.edges.length c2] 35)).alloc (.cells #[.int .i64 a.start, .slice A3 n3 c3, .slice A4 n4 c4] 37)) := ⟨_, rfl⟩
  rw [← hW0] at hb0 ⊢
  have x0 : W0.cell? ⟨w.heap.size, 0, none⟩ = some (.slice A1 g.vals.length c1) := by rw [hW0]; simp
  have x1 : W0.cell? ⟨w.heap.size, 1, none⟩ = some (.slice A2 g.edges.length c2) := by rw [hW0]; simp
  have y0 : W0.cell? ⟨w.heap.size + 1, 0, none⟩ = some (.int .i64 a.start) := by rw [hW0]; simp
  have y1 : W0.cell? ⟨w.heap.size + 1, 1, none⟩ = some (.slice A3 n3 c3) := by rw [hW0]; simp
  have y2 : W0.cell? ⟨w.heap.size + 1, 2, none⟩ = some (.slice A4 n4 c4) := by rw [hW0]; simp
  have hs0 : w.heap.size + 1 + 1 = W0.heap.size := by rw [hW0]; simp
  try rw [hs0]
  have l0 : w.heap.size + 1 < W0.heap.size := by omega
  have l00 : w.heap.size < W0.heap.size := by omega
  clear hW0 hs0
  have hbo := bothOk_any _ _ (.slice none 0 0) g a [] W0 (HGV.out.keep hb0) (HAV.out.keep hb0) (SlI.nil _ _ _ _ _)
  rw [List.all_nil, Bool.true_and] at hbo
  have HBO := Lib.hid hbo
  have hR := HRR.out
  rw [allL] at hR
  clear hbo HRR
  cases hk : (grOk g && auOk a) with
  | false =>
    rw [hk] at HBO hR
    have hr0 : R = [] := hR
    subst hr0
    clear hk hR
    refine HBO.out.mono ?_
    rintro e w1 ⟨rfl, hb1⟩
    go_wp2_with fail
    go_ret
    exact ⟨_, rfl, Own.nil _ _ _ _ _ _, below_trans hb0 hb1⟩
  | true =>
    rw [hk] at HBO hR
    have hT2 : R = allTo g a g.vals.length := hR
    have hn5 := (grOk_iff.1 (Bool.and_eq_true .. ▸ hk).1).n5
    have HR := Lib.hid hT2
    clear hk hR hT2
    refine HBO.out.mono ?_
    rintro e w1 ⟨rfl, hb1⟩
    have x0 := kcell hb1 x0
    have x1 := kcell hb1 x1
    have y0 := kcell hb1 y0
    have y1 := kcell hb1 y1
    have y2 := kcell hb1 y2
    have hb2 := below_trans hb0 hb1
    have l0 := Nat.lt_of_lt_of_le l0 hb1.size
    have l00 := Nat.lt_of_lt_of_le l00 hb1.size
    clear hb1 hb0 HBO
    go_wp2_with fail
    obtain ⟨gO, hgO⟩ : ∃ gO, gO = w1.heap.size := ⟨_, rfl⟩
    obtain ⟨W5, hW5⟩ : ∃ W5, W5 = w1.alloc (.cells #[] 105) := ⟨_, rfl⟩
    have hrow0 : W5.ownsRow gO 105 2 (.slice (some ⟨gO, 0, none⟩) 0 0) ([] : List Pr).length (([] : List Pr).flatMap cPr) := by
      rw [hW5, hgO]
      have h := World.ownsRow_lit (base := w1.heap.size) (e := 105) (size := 2) w1 #[] 0 (by simp) (by decide) rfl
      simpa using h
    have hb4 : Below w1.heap.size w1 W5 := by rw [hW5]; exact (Below.refl _ _).alloc (Nat.le_refl _) _
    have hgs : gO < W5.heap.size := by rw [hW5, hgO]; simp
    rw [← hW5, ← hgO]
    have hgw : w.heap.size + 1 < gO := by omega
    have hb5 := below_trans hb2 hb4
    have x0 := kcell hb4 x0
    have x1 := kcell hb4 x1
    have y0 := kcell hb4 y0
    have y1 := kcell hb4 y1
    have y2 := kcell hb4 y2
    have l0 := Nat.lt_of_lt_of_le l0 hb4.size
    have l00 := Nat.lt_of_lt_of_le l00 hb4.size
    have HROW0 := Lib.hid hrow0
    clear hrow0 hW5 hgO hb4 hb2
    go_loopw [5, 17] (fun oo ii wr => ∃ i : Nat, i ≤ g.vals.length ∧ ii = .int .i64 (i : Int) ∧ wr.ownsRow gO 105 2 oo (allTo g a i).length ((allTo g a i).flatMap cPr) ∧ Below gO W5 wr) (fun _ ii _ => g.vals.length - (intOf ii).toNat)
    case atStart => exact ⟨0, Nat.zero_le _, rfl, HROW0.out, Below.refl _ _⟩
    case round =>
      clear HROW0
      obtain ⟨i, hi, rfl, hrow, hbel⟩ := hrel
      have x0 := (hbel.cell (p := ⟨w.heap.size, 0, none⟩) (by simp only; omega)).trans x0
      have x1 := (hbel.cell (p := ⟨w.heap.size, 1, none⟩) (by simp only; omega)).trans x1
      have y0 := (hbel.cell (p := ⟨w.heap.size + 1, 0, none⟩) (by simp only; omega)).trans y0
      have y1 := (hbel.cell (p := ⟨w.heap.size + 1, 1, none⟩) (by simp only; omega)).trans y1
      have y2 := (hbel.cell (p := ⟨w.heap.size + 1, 2, none⟩) (by simp only; omega)).trans y2
      have hsz := hbel.size
      have l0 := Nat.lt_of_lt_of_le l0 hsz
      have l00 := Nat.lt_of_lt_of_le l00 hsz
      have hbw := hb5.trans (hbel.mono (show w.heap.size ≤ gO by omega))
      have HBW := Lib.hid hbw
      have HROW := Lib.hid hrow
      have HBEL := Lib.hid hbel
      have hfl := allTo_len g a i
      clear hrow hbw hbel
      obtain ⟨wo, rfl⟩ : ∃ wo : World, wo = wr := ⟨_, rfl⟩
      by_cases hlt : i < g.vals.length
      · have hii : (i : Int) < (g.vals.length : Int) := by omega
        have HAF := Lib.hid (implAnswersFrom _ _ g a (i : Int) wo (HGV.out.keep HBW.out) (HAV.out.keep HBW.out))
        go_wp2_with fail
        refine HAF.out.mono ?_
        rintro e w6 ⟨v6, rfl, ho6, hb6⟩
        clear HAF
        have hs6 := hb6.size
        have x0 := kcell hb6 x0
        have x1 := kcell hb6 x1
        have y0 := kcell hb6 y0
        have y1 := kcell hb6 y1
        have y2 := kcell hb6 y2
        have l0 := Nat.lt_of_lt_of_le l0 hs6
        have l00 := Nat.lt_of_lt_of_le l00 hs6
        have HB6 := Lib.hid hb6
        have HR6 := Lib.hid (ownsRow_below HROW.out hb6 (Nat.le_refl _))
        have hob6 := HROW.out.lt
        have HC6 := Lib.hid (ho6.sl cI_len)
        obtain ⟨A6, c6, rfl, hl6, hm6, -⟩ := ho6.form cI_len
        have HT1 := Lib.hid (allTo_snoc g a i)
        have hln := ansL_len g a (i : Int)
        have HRW := Lib.hid (fun (k : Nat) (y : Int) (h : (ansL g a (i : Int))[k]? = some y) => allRow_snoc (g := g) (a := a) (x := i) h)
        have HR0 := Lib.hid (allRow_zero g a i)
        have hrl := allRow_len g a i
        have HRL := Lib.hid hrl
        clear ho6 hrl
        generalize ansL g a (i : Int) = l at *
        generalize allTo g a i = L at *
        obtain ⟨N, hN⟩ : ∃ N, N = l.length := ⟨_, rfl⟩
        rw [← hN] at hl6 hln HT1 ⊢
        have HN := Lib.hid hN
        clear hN
        go_wp2_with fail
        go_loopw [5, 25] (fun oo jj wr => ∃ j : Nat, j ≤ N ∧ jj = .int .i64 (j : Int) ∧ wr.ownsRow gO 105 2 oo (L ++ allRow g a i j).length ((L ++ allRow g a i j).flatMap cPr) ∧ Only gO wo.heap.size w6 wr ∧ (∀ b, oo.ownBlock = some b → (gO ≤ b ∧ b < wo.heap.size) ∨ w6.heap.size ≤ b)) (fun _ jj _ => N - (intOf jj).toNat)
        case atStart => exact ⟨0, Nat.zero_le _, rfl, by rw [HR0.out, List.append_nil]; exact HR6.out, Only.refl _ _ _, fun b hb => .inl (hob6 b hb)⟩
        case round =>
          clear HR6 hob6
          obtain ⟨j, hj, rfl, hrow, hon, hob⟩ := hrel
          have x0 := ocell hon x0 l00 (.inl (by omega))
          have x1 := ocell hon x1 l00 (.inl (by omega))
          have y0 := ocell hon y0 l0 (.inl (by omega))
          have y1 := ocell hon y1 l0 (.inl (by omega))
          have y2 := ocell hon y2 l0 (.inl (by omega))
          have hsz2 := hon.size
          have HROW2 := Lib.hid hrow
          have HON := Lib.hid hon
          have HOB := Lib.hid hob
          have hrl := HRL.out j
          clear hrow hon hob
          by_cases hlj : j < N
          · have hjj : (j : Int) < (N : Int) := by omega
            have hyi := getD_of (D := l) (k := j) (by have := HN.out; omega)
            obtain ⟨b6, o6, rfl, hb60, hb6x, d6⟩ := HC6.out.intI hyi
            have d6 := ocell HON.out d6 hb6x (.inr (by omega))
            have hb6w : b6 < wr.heap.size := by omega
            have HSN := Lib.hid (show (L ++ allRow g a i j) ++ [((i : Int), l.getD j 0)] = L ++ allRow g a i (j + 1) by rw [HRW.out j _ hyi, List.append_assoc])
            have hll : (L ++ allRow g a i j).length ≤ 1000 := by rw [List.length_append]; omega
            clear hyi
            generalize l.getD j 0 = yy at *
            generalize L ++ allRow g a i j = LL at *
            go_wp2_with (at_builtin; (refine wpList_append1 cPr elPair rfl _ _ rfl gO _ LL ((i : Int), yy) _ 1 _ (by rfl) HROW2.out (by rfl) rfl rfl rfl (cPr_one _) (by omega) (by omega) (by omega) ?_); intro v' w4 hrow' hb4 hat4 hgr4)
            go_roundw
            case rel =>
              refine ⟨j + 1, by omega, by go_num, by rw [← HSN.out]; exact hrow', (HON.out.alloc _).grown hgr4 (fun b hb => HOB.out b hb), fun b hb => ?_⟩
              rcases hat4 with h1 | ⟨g1, h1, h2⟩
              · exact HOB.out b (by rw [← h1]; exact hb)
              · rw [h1] at hb
                injection hb with hb
                exact .inr (by omega)
            case measure => simp [intOf]; omega
          · obtain rfl : j = N := by omega
            rw [← HT1.out] at HROW2
            have HBX := Lib.hid (HBEL.out.trans ((HB6.out.mono (show gO ≤ wo.heap.size by omega)).trans (HON.out.below (Nat.le_refl _) (by omega))))
            go_wp2_with fail
            go_roundw
            case rel => exact ⟨i + 1, by omega, by go_num, HROW2.out, HBX.out⟩
            case measure => simp [intOf]; omega
      ·
        obtain rfl : i = g.vals.length := by omega
        have hown := Own.of_row (xs := allTo g a g.vals.length) HROW.out rfl rfl
        rw [← HR.out] at hown
        obtain ⟨A9, n9, c9, rfl⟩ := hown.shape
        have HO := Lib.hid (hown.mono (show w.heap.size ≤ gO by omega) (Nat.le_refl _))
        clear hown
        go_wp2_with fail
        go_ret
        exact ⟨_, rfl, HO.out, HBW.out⟩

set_option maxHeartbeats 4000000 in
set_option maxRecDepth 100000 in
theorem specAllAnswers (vg va : Value) (g : Gr) (a : Au) (w : World) (hgv : GrV 0 w.heap.size w vg g) (hav : AuV 0 w.heap.size w va a) :
    Calls Try.prog 53 #[vg, va] w fun e w' => ∃ v', e = .returned v' ∧ Own w.heap.size w'.heap.size w' 105 cPr 2 v' (allL g a) ∧ Below w.heap.size w w' := by
  obtain ⟨R, hR⟩ : ∃ R, R = allL g a := ⟨_, rfl⟩
  rw [← hR]
  have HRR := Lib.hid hR
  clear hR
  have hgv0 := hgv
  have hav0 := hav
  obtain ⟨A1, c1, A2, c2, rfl, hl1, hm1, hl2, hm2, hC1, -⟩ := hgv.form
  obtain ⟨ac, nx, rfl, hac, hnx⟩ := hav
  obtain ⟨A3, c3, rfl, hl3, hm3, -⟩ := SlE.form hac
  obtain ⟨A4, n4, c4, rfl⟩ := hnx.shape
  have hb0 : Below w.heap.size w ((w.alloc (.cells #[.slice A1 g.vals.length c1, .slice A2 g.edges.length c2] 35)).alloc (.cells #[.int .i64 a.start, .slice A3 a.accept.length c3, .slice A4 n4 c4] 37)) := ((Below.refl _ _).alloc (Nat.le_refl _) _).alloc (by simp) _
  have HGV := Lib.hid hgv0
  have HAV := Lib.hid hav0
  have HC1 := Lib.hid hC1
  clear hgv hac hnx hgv0 hav0 hC1
  go_enter Try.func53, Try.ntmps53
  go_wp2_with fail
  obtain ⟨W0, hW0⟩ : ∃ W0, W0 = ((w.alloc (.cells #[.slice A1 g.vals.length c1, .slice A2 g.edges.length c2] 35)).alloc (.cells #[.int .i64 a.start, .slice A3 a.accept.length c3, .slice A4 n4 c4] 37)).alloc (.cells #[] 105) := ⟨_, rfl⟩
  have hb0 : Below w.heap.size w W0 := by rw [hW0]; exact hb0.alloc hb0.size _
  rw [← hW0]
  have bx : Blk W0 w.heap.size 35 #[.slice A1 g.vals.length c1, .slice A2 g.edges.length c2] := by rw [hW0]; exact ((Blk.new w _ _ w.heap.size rfl).alloc _).alloc _
  have by_ : Blk W0 (w.heap.size + 1) 37 #[.int .i64 a.start, .slice A3 a.accept.length c3, .slice A4 n4 c4] := by rw [hW0]; exact (Blk.new (w.alloc _) _ _ (w.heap.size + 1) (by simp)).alloc _
  have hrow0 : W0.ownsRow (w.heap.size + 1 + 1) 105 2 (.slice (some ⟨w.heap.size + 1 + 1, 0, none⟩) 0 0) ([] : List Pr).length (([] : List Pr).flatMap cPr) := by
    rw [hW0]
    have h := World.ownsRow_lit (base := w.heap.size + 1 + 1) (e := 105) (size := 2) ((w.alloc (.cells #[.slice A1 g.vals.length c1, .slice A2 g.edges.length c2] 35)).alloc (.cells #[.int .i64 a.start, .slice A3 a.accept.length c3, .slice A4 n4 c4] 37)) #[] 0 (by simp) (by decide) rfl
    simpa using h
  have x0 : W0.cell? ⟨w.heap.size, 0, none⟩ = some (.slice A1 g.vals.length c1) := bx.cell 0
  have x1 : W0.cell? ⟨w.heap.size, 1, none⟩ = some (.slice A2 g.edges.length c2) := bx.cell 1
  have y0 : W0.cell? ⟨w.heap.size + 1, 0, none⟩ = some (.int .i64 a.start) := by_.cell 0
  have y1 : W0.cell? ⟨w.heap.size + 1, 1, none⟩ = some (.slice A3 a.accept.length c3) := by_.cell 1
  have y2 : W0.cell? ⟨w.heap.size + 1, 2, none⟩ = some (.slice A4 n4 c4) := by_.cell 2
  have l0 := by_.lt
  have l00 := bx.lt
  have HROW0 := Lib.hid hrow0
  have hsW : W0.heap.size = w.heap.size + 1 + 1 + 1 := by rw [hW0]; simp
  have hsW' : w.heap.size + 1 + 1 < W0.heap.size := by omega
  have HSW := Lib.hid hsW
  clear hW0 bx by_ hrow0 hsW
  have HG := Lib.hid (fun (W : World) (hW : Below w.heap.size w W) => show Calls Try.prog 65 #[_, _, .int .i64 0, .int .i64 0] W fun e w' => e = .returned (.bool (grOk g && auOk a)) ∧ Below W.heap.size W w' by rw [← goodB00]; exact l14Good_any _ _ g a 0 0 W (HGV.out.keep hW) (HAV.out.keep hW))
  have hR := HRR.out
  rw [allL] at hR
  clear HRR
  cases hk : (grOk g && auOk a) with
  | false =>
    rw [hk] at HG hR
    have hr0 : R = [] := hR
    subst hr0
    have HB0 := Lib.hid hb0
    clear hk hR hb0
    go_loopw [5, 6] (fun oo ii wr => oo = .slice (some ⟨w.heap.size + 1 + 1, 0, none⟩) 0 0 ∧ ii = .int .i64 0 ∧ wr = W0) (fun _ _ _ => 0)
    case atStart => exact ⟨rfl, rfl, rfl⟩
    case round =>
      obtain ⟨rfl, rfl, rfl⟩ := hrel
      have hO := Lib.hid ((Own.of_row (xs := ([] : List Pr)) HROW0.out rfl rfl).mono (show w.heap.size ≤ w.heap.size + 1 + 1 by omega) (Nat.le_refl _))
      by_cases h0 : (0 : Int) < (g.vals.length : Int)
      · go_wp2_with fail
        refine (HG.out _ HB0.out).mono ?_
        rintro e w2 ⟨rfl, hb2⟩
        have HO2 := Lib.hid ((hO.out.below hb2 (Nat.le_refl _)).mono (Nat.le_refl _) hb2.size)
        go_wp2_with fail
        go_ret
        exact ⟨_, rfl, HO2.out, below_trans HB0.out hb2⟩
      · go_wp2_with fail
        go_ret
        exact ⟨_, rfl, hO.out, HB0.out⟩
  | true =>
    rw [hk] at HG hR
    simp only [Bool.and_eq_true] at hk
    obtain ⟨hgo, hao⟩ := hk
    have hn5 := (grOk_iff.1 hgo).n5
    have hr1 : R = allTo g a g.vals.length := hR
    have HR := Lib.hid hr1
    have HLF := Lib.hid (fun (x : Nat) (W : World) (hW : Below w.heap.size w W) (hx : x < g.vals.length) => l15From_any _ _ g a x W (HGV.out.keep hW) (HAV.out.keep hW) hgo hao hx)
    clear hgo hao hR hr1
    obtain ⟨gO, hgO⟩ : ∃ gO, gO = w.heap.size + 1 + 1 := ⟨_, rfl⟩
    rw [← hgO] at HROW0 hsW' ⊢
    have hgw : w.heap.size + 1 < gO := by omega
    have hgs := hsW'
    have hb5 := hb0
    obtain ⟨W5, rfl⟩ : ∃ W5 : World, W5 = W0 := ⟨_, rfl⟩
    clear hgO HSW hsW' hb0
    go_loopw [5, 6] (fun oo ii wr => ∃ i : Nat, i ≤ g.vals.length ∧ ii = .int .i64 (i : Int) ∧ wr.ownsRow gO 105 2 oo (allTo g a i).length ((allTo g a i).flatMap cPr) ∧ Below gO W5 wr) (fun _ ii _ => g.vals.length - (intOf ii).toNat)
    case atStart => exact ⟨0, Nat.zero_le _, rfl, HROW0.out, Below.refl _ _⟩
    case round =>
      clear HROW0
      obtain ⟨i, hi, rfl, hrow, hbel⟩ := hrel
      have x0 := (hbel.cell (p := ⟨w.heap.size, 0, none⟩) (by simp only; omega)).trans x0
      have x1 := (hbel.cell (p := ⟨w.heap.size, 1, none⟩) (by simp only; omega)).trans x1
      have y0 := (hbel.cell (p := ⟨w.heap.size + 1, 0, none⟩) (by simp only; omega)).trans y0
      have y1 := (hbel.cell (p := ⟨w.heap.size + 1, 1, none⟩) (by simp only; omega)).trans y1
      have y2 := (hbel.cell (p := ⟨w.heap.size + 1, 2, none⟩) (by simp only; omega)).trans y2
      have hsz := hbel.size
      have l0 := Nat.lt_of_lt_of_le l0 hsz
      have l00 := Nat.lt_of_lt_of_le l00 hsz
      have hbw := hb5.trans (hbel.mono (show w.heap.size ≤ gO by omega))
      have HBW := Lib.hid hbw
      have HROW := Lib.hid hrow
      have HBEL := Lib.hid hbel
      have hfl := allTo_len g a i
      clear hrow hbw hbel
      obtain ⟨wo, rfl⟩ : ∃ wo : World, wo = wr := ⟨_, rfl⟩
      by_cases hlt : i < g.vals.length
      · have hii : (i : Int) < (g.vals.length : Int) := by omega
        go_wp2_with fail
        refine (HG.out _ HBW.out).mono ?_
        rintro e w2 ⟨rfl, hb2⟩
        have hbw2 := below_trans HBW.out hb2
        have x0 := kcell hb2 x0
        have x1 := kcell hb2 x1
        have y0 := kcell hb2 y0
        have y1 := kcell hb2 y1
        have y2 := kcell hb2 y2
        have HROW := Lib.hid (ownsRow_below HROW.out hb2 (Nat.le_refl _))
        have hs2 := hb2.size
        have l0 := Nat.lt_of_lt_of_le l0 hs2
        have l00 := Nat.lt_of_lt_of_le l00 hs2
        have HBEL := Lib.hid (HBEL.out.trans (hb2.mono (show gO ≤ wo.heap.size by omega)))
        have hsz := HBEL.out.size
        clear hb2
        obtain ⟨wp, rfl⟩ : ∃ wp : World, wp = wo := ⟨_, rfl⟩
        obtain ⟨wo, rfl⟩ : ∃ wo : World, wo = w2 := ⟨_, rfl⟩
        go_wp2_with fail
        refine (HLF.out i _ hbw2 hlt).mono ?_
        rintro e w6 ⟨v6, rfl, ho6, hb6⟩
        have hs6 := hb6.size
        have x0 := kcell hb6 x0
        have x1 := kcell hb6 x1
        have y0 := kcell hb6 y0
        have y1 := kcell hb6 y1
        have y2 := kcell hb6 y2
        have l0 := Nat.lt_of_lt_of_le l0 hs6
        have l00 := Nat.lt_of_lt_of_le l00 hs6
        have HB6 := Lib.hid hb6
        have HR6 := Lib.hid (ownsRow_below HROW.out hb6 (Nat.le_refl _))
        have hob6 := HROW.out.lt
        have HC6 := Lib.hid (ho6.sl cI_len)
        obtain ⟨A6, c6, rfl, hl6, hm6, -⟩ := ho6.form cI_len
        have HT1 := Lib.hid (allTo_snoc g a i)
        have hln := ansL_len g a (i : Int)
        have HRW := Lib.hid (fun (k : Nat) (y : Int) (h : (ansL g a (i : Int))[k]? = some y) => allRow_snoc (g := g) (a := a) (x := i) h)
        have HR0 := Lib.hid (allRow_zero g a i)
        have hrl := allRow_len g a i
        have HRL := Lib.hid hrl
        clear ho6 hrl
        generalize ansL g a (i : Int) = l at *
        generalize allTo g a i = L at *
        obtain ⟨N, hN⟩ : ∃ N, N = l.length := ⟨_, rfl⟩
        rw [← hN] at hl6 hln HT1 ⊢
        have HN := Lib.hid hN
        clear hN
        go_wp2_with fail
        go_loopw [5, 8] (fun oo jj wr => ∃ j : Nat, j ≤ N ∧ jj = .int .i64 (j : Int) ∧ wr.ownsRow gO 105 2 oo (L ++ allRow g a i j).length ((L ++ allRow g a i j).flatMap cPr) ∧ Only gO wo.heap.size w6 wr ∧ (∀ b, oo.ownBlock = some b → (gO ≤ b ∧ b < wo.heap.size) ∨ w6.heap.size ≤ b)) (fun _ jj _ => N - (intOf jj).toNat)
        case atStart => exact ⟨0, Nat.zero_le _, rfl, by rw [HR0.out, List.append_nil]; exact HR6.out, Only.refl _ _ _, fun b hb => .inl (hob6 b hb)⟩
        case round =>
          clear HR6 hob6
          obtain ⟨j, hj, rfl, hrow, hon, hob⟩ := hrel
          have x0 := ocell hon x0 l00 (.inl (by omega))
          have x1 := ocell hon x1 l00 (.inl (by omega))
          have y0 := ocell hon y0 l0 (.inl (by omega))
          have y1 := ocell hon y1 l0 (.inl (by omega))
          have y2 := ocell hon y2 l0 (.inl (by omega))
          have hsz2 := hon.size
          have HROW2 := Lib.hid hrow
          have HON := Lib.hid hon
          have HOB := Lib.hid hob
          have hrl := HRL.out j
          clear hrow hon hob
          by_cases hlj : j < N
          · have hjj : (j : Int) < (N : Int) := by omega
            have hyi := getD_of (D := l) (k := j) (by have := HN.out; omega)
            obtain ⟨b6, o6, rfl, hb60, hb6x, d6⟩ := HC6.out.intI hyi
            have d6 := ocell HON.out d6 hb6x (.inr (by omega))
            have hb6w : b6 < wr.heap.size := by omega
            have HSN := Lib.hid (show (L ++ allRow g a i j) ++ [((i : Int), l.getD j 0)] = L ++ allRow g a i (j + 1) by rw [HRW.out j _ hyi, List.append_assoc])
            have hll : (L ++ allRow g a i j).length ≤ 1000 := by rw [List.length_append]; omega
            clear hyi
            generalize l.getD j 0 = yy at *
            generalize L ++ allRow g a i j = LL at *
            go_wp2_with (at_builtin; (refine wpList_append1 cPr elPair rfl _ _ rfl gO _ LL ((i : Int), yy) _ 1 _ (by rfl) HROW2.out (by rfl) rfl rfl rfl (cPr_one _) (by omega) (by omega) (by omega) ?_); intro v' w4 hrow' hb4 hat4 hgr4)
            go_roundw
            case rel =>
              refine ⟨j + 1, by omega, by go_num, by rw [← HSN.out]; exact hrow', (HON.out.alloc _).grown hgr4 (fun b hb => HOB.out b hb), fun b hb => ?_⟩
              rcases hat4 with h1 | ⟨g1, h1, h2⟩
              · exact HOB.out b (by rw [← h1]; exact hb)
              · rw [h1] at hb
                injection hb with hb
                exact .inr (by omega)
            case measure => simp [intOf]; omega
          · obtain rfl : j = N := by omega
            rw [← HT1.out] at HROW2
            have HBX := Lib.hid (HBEL.out.trans ((HB6.out.mono (show gO ≤ wo.heap.size by omega)).trans (HON.out.below (Nat.le_refl _) (by omega))))
            go_wp2_with fail
            go_roundw
            case rel => exact ⟨i + 1, by omega, by go_num, HROW2.out, HBX.out⟩
            case measure => simp [intOf]; omega
      ·
        obtain rfl : i = g.vals.length := by omega
        have hown := Own.of_row (xs := allTo g a g.vals.length) HROW.out rfl rfl
        rw [← HR.out] at hown
        obtain ⟨A9, n9, c9, rfl⟩ := hown.shape
        have HO := Lib.hid (hown.mono (show w.heap.size ≤ gO by omega) (Nat.le_refl _))
        clear hown
        go_wp2_with fail
        go_ret
        exact ⟨_, rfl, HO.out, HBW.out⟩
end Go.Proofs.Ytajjolkpgfegfaa

