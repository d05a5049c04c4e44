/- Parts of the proof, joined into one text: LawKit, HelpPos, PosI, TwnI, TwMap, TwnB, TwnD, TwnW, TwnP, TwnG. -/
import Derived.Test.YthnapjodmndlaaaPartLCJMOOFA
import Derived.Test.YthnapjodmndlaaaPartKIJKDOCI
import Derived.Maps.OwnSet
import Derived.Maps.Views
import Derived.DeepKeys4
/- Words for laws whose results lie in memory: what is owned outlives marks elsewhere; rows of rows are marked whatever the order of their blocks. -/
namespace Go.Proofs.Ythnapjodmndlaaa
set_option linter.unusedVariables false
set_option linter.unusedSimpArgs false
open Go.ChangeShapes Go.WideShapes Go.ChangeAt Go.RowKit
attribute [local go_sem] ext_cell ext_frozen ext_lt ext_lt1 ext_lt2 ext_lt3 ltn2 ltn3 ltn13 lts1 lts2 lts3

theorem AuO.only {lo hi : Nat} {w w' : World} {v : Value} {a : Au} (h : AuO lo hi w v a) {l r : Nat} (hb : Only l r w w') (ho : hi ≤ l ∨ r ≤ lo) : AuO lo hi w' v a := by
  obtain ⟨ac, nx, mid, rfl, h1, h2, h3, h4⟩ := h
  exact ⟨ac, nx, mid, rfl, h1.only hb (by omega), h2.only hb (by omega), h3, h4⟩

theorem ownsRow_base {w : World} {base b k n : Nat} {e : TypeId} {v : Value} {cs : List Value} (hb : ∀ g, v.ownBlock = some g → b ≤ g) (h : w.ownsRow base e k v n cs) : w.ownsRow b e k v n cs := by
  obtain ⟨hl, hs⟩ := h
  rcases hs with ⟨rfl, hn⟩ | ⟨g, cap, cur, rfl, hg, r⟩
  · exact ⟨hl, .inl ⟨rfl, hn⟩⟩
  · exact ⟨hl, .inr ⟨g, cap, cur, rfl, hb g rfl, r⟩⟩
theorem filterMap_inj {α β : Type} {f : α → Option β} {L : List α} (h : (L.filterMap f).Nodup) {i j : Nat} {x y : α} (hi : L[i]? = some x) (hj : L[j]? = some y) {b : β} (hx : f x = some b) (hy : f y = some b) : i = j := by
  have hp := List.pairwise_filterMap.1 h
  rw [List.pairwise_iff_getElem] at hp
  obtain ⟨hi1, hi2⟩ := List.getElem?_eq_some_iff.1 hi
  obtain ⟨hj1, hj2⟩ := List.getElem?_eq_some_iff.1 hj
  rcases Nat.lt_trichotomy i j with hl | he | hg
  · exact absurd rfl (hp i j hi1 hj1 hl b (by rw [hi2]; exact hx) b (by rw [hj2]; exact hy))
  · exact he
  · exact absurd rfl (hp j i hj1 hi1 hg b (by rw [hj2]; exact hy) b (by rw [hi2]; exact hx))
theorem NS.turn {α : Type} {lo : Nat} {w w' : World} {oT eT : TypeId} {E : α → List Value} {k : Nat} {v : Value} {us : List Value} {xss : List (List α)} (h : NS lo w oT eT E k v us xss) {i : Nat} {u : Value} {xs' : List α} (hu : us[i]? = some u)
    (hr : w'.ownsRow lo eT k u xs'.length (xs'.flatMap E)) (hb : ∀ b ∈ blks (v :: us), u.ownBlock ≠ some b → w'.heap[b]? = w.heap[b]?) : NS lo w' oT eT E k v us (xss.set i xs') := by
  have hdis := h.dis
  refine ⟨ownsRow_block h.own fun g hg => hb g (mem_blks.2 ⟨0, v, rfl, hg⟩) fun e => ?_, by simp [h.len], fun j u2 xs2 hj hx => ?_, hdis⟩
  · have := filterMap_inj (i := 0) (j := i + 1) hdis rfl (by simpa using hu) hg e
    omega
  · by_cases hij : i = j
    · subst hij
      rw [hu] at hj
      injection hj with hj
      subst hj
      have hl := (List.getElem?_eq_some_iff.1 hx).1
      rw [List.length_set] at hl
      rw [List.getElem?_set_self hl] at hx
      injection hx with hx
      subst hx
      exact hr
    · rw [List.getElem?_set_ne hij] at hx
      refine ownsRow_block (h.rows j u2 xs2 hj hx) fun g hg => hb g (mem_blks.2 ⟨j + 1, u2, by simpa using hj, hg⟩) fun e => ?_
      have := filterMap_inj (i := i + 1) (j := j + 1) hdis (by simpa using hu) (by simpa using hj) e hg
      omega
/-- an owned row lies in its own block alone -/
theorem own_tight {α : Type} {E : α → List Value} {w : World} {base k : Nat} {e : TypeId} {v : Value} {xs : List α} (h : w.ownsRow base e k v xs.length (xs.flatMap E)) :
    ∃ l r, Own l r w e E k v xs ∧ (∀ b, l ≤ b → b < r → v.ownBlock = some b) ∧ (l < r → base ≤ l ∧ r ≤ w.heap.size) := by
  have hlt := h.lt
  obtain ⟨hl, hs⟩ := h
  rcases hs with ⟨rfl, hn⟩ | ⟨g, cap, cur, rfl, hg, hh, rr⟩
  · exact ⟨0, 0, ⟨⟨hl, .inl ⟨rfl, hn⟩⟩, by intro g hg; cases hg⟩, by intro b _ hb; omega, by omega⟩
  · have h2 := hlt g rfl
    refine ⟨g, g + 1, ⟨⟨hl, .inr ⟨g, cap, cur, rfl, Nat.le_refl _, hh, rr⟩⟩, by intro b hb; injection hb with hb; subst hb; exact Nat.lt_succ_self _⟩, fun b h1 h2 => ?_, fun _ => by omega⟩
    obtain rfl : b = g := by omega
    rfl

/-- rows of rows whose blocks all lie from lo to hi -/
def NSO (lo hi : Nat) (w : World) (v : Value) (xss : List (List Int)) : Prop :=
  ∃ us, NS lo w 22 3 cI 1 v us xss ∧ ∀ b ∈ blks (v :: us), b < hi
section
variable {lo hi : Nat} {w w' : World} {v : Value} {xss : List (List Int)}
theorem NSO.of {us : List Value} (h : NS lo w 22 3 cI 1 v us xss) : NSO lo w.heap.size w v xss := ⟨us, h, fun b hb => (h.lt b hb).2⟩
theorem NSO.view (h : NSO lo hi w v xss) : SSV lo hi w v xss := by
  obtain ⟨us, h, hl⟩ := h
  refine ⟨us, Own.sl ⟨h.own, fun g hg => hl g (mem_blks.2 ⟨0, v, rfl, hg⟩)⟩ cV_len, h.len, fun i u xs hu hx => ?_⟩
  exact Own.sl ⟨h.rows i u xs hu hx, fun g hg => hl g (mem_blks.2 ⟨i + 1, u, by simpa using hu, hg⟩)⟩ cI_len
theorem NSO.below (h : NSO lo hi w v xss) {B : Nat} (hb : Below B w w') (hB : hi ≤ B) : NSO lo hi w' v xss := by
  obtain ⟨us, h, hl⟩ := h
  exact ⟨us, h.blocks fun b hm => hb.block b (by have := hl b hm; omega), hl⟩
theorem NSO.only (h : NSO lo hi w v xss) {l r : Nat} (hb : Only l r w w') (ho : hi ≤ l ∨ r ≤ lo) : NSO lo hi w' v xss := by
  obtain ⟨us, h, hl⟩ := h
  exact ⟨us, h.blocks fun b hm => hb.block b (h.lt b hm).2 (by have := hl b hm; have := (h.lt b hm).1; omega), hl⟩
theorem NSO.mono (h : NSO lo hi w v xss) {lo' hi' : Nat} (h1 : lo' ≤ lo) (h2 : hi ≤ hi') : NSO lo' hi' w v xss := by
  obtain ⟨us, h, hl⟩ := h
  exact ⟨us, h.mono h1, fun b hb => by have := hl b hb; omega⟩
end

end Go.Proofs.Ythnapjodmndlaaa

/- Position automata in the laws' helpers: measured, copied, compared, marked. -/
namespace Go.Proofs.Ythnapjodmndlaaa
set_option linter.unusedVariables false
set_option linter.unusedSimpArgs false
open Go.ChangeShapes Go.WideShapes Go.ChangeAt Go.RowKit
attribute [local go_sem] ext_cell ext_frozen ext_lt ext_lt1 ext_lt2 ext_lt3 ltn2 ltn3 ltn13 lts1 lts2 lts3

def PzO (lo hi : Nat) (w : World) (v : Value) (p : Pz) : Prop :=
  ∃ vs es mid, v = .agg #[vs, .int .i64 p.first, .int .i64 p.last, es, .bool p.nul] ∧ Own lo mid w 3 cI 1 vs p.lets ∧ Own mid hi w 3 cI 1 es p.fol ∧ lo ≤ mid ∧ mid ≤ hi
theorem PzO.view {lo hi : Nat} {w : World} {v : Value} {p : Pz} (h : PzO lo hi w v p) : PzV lo hi w v p := by
  obtain ⟨vs, es, mid, rfl, h1, h2, h3, h4⟩ := h
  exact ⟨vs, es, rfl, (h1.sl cI_len).mono (Nat.le_refl _) h4, (h2.sl cI_len).mono h3 (Nat.le_refl _)⟩
theorem PzO.below {lo hi : Nat} {w w' : World} {v : Value} {p : Pz} (h : PzO lo hi w v p) {B : Nat} (hb : Below B w w') (hB : hi ≤ B) : PzO lo hi w' v p := by
  obtain ⟨vs, es, mid, rfl, h1, h2, h3, h4⟩ := h
  exact ⟨vs, es, mid, rfl, h1.below hb (by omega), h2.below hb hB, h3, h4⟩
theorem PzO.only {lo hi : Nat} {w w' : World} {v : Value} {p : Pz} (h : PzO lo hi w v p) {l r : Nat} (hb : Only l r w w') (ho : hi ≤ l ∨ r ≤ lo) : PzO lo hi w' v p := by
  obtain ⟨vs, es, mid, rfl, h1, h2, h3, h4⟩ := h
  exact ⟨vs, es, mid, rfl, h1.only hb (by omega), h2.only hb (by omega), h3, h4⟩
theorem PzV.shape {lo hi : Nat} {w : World} {v : Value} {p : Pz} (h : PzV lo hi w v p) : ∃ A n c B m d, v = .agg #[.slice A n c, .int .i64 p.first, .int .i64 p.last, .slice B m d, .bool p.nul] := by
  obtain ⟨vl, vf, rfl, h1, h2⟩ := h
  obtain ⟨A, n, c, rfl⟩ := h1.shape
  obtain ⟨B, m, d, rfl⟩ := h2.shape
  exact ⟨_, _, _, _, _, _, rfl⟩
theorem PzV.all {lo hi : Nat} {w : World} {v : Value} {p : Pz} (h : PzV lo hi w v p) (hh : hi ≤ w.heap.size) : PzV 0 w.heap.size w v p := by
  obtain ⟨vl, vf, rfl, h1, h2⟩ := h
  exact ⟨vl, vf, rfl, h1.all hh, h2.all hh⟩
def szPz (p : Pz) (left : Int) : Int := if left < p.lets.length then -1 else if left - p.lets.length < p.fol.length then -1 else left - p.lets.length - p.fol.length
theorem szPz_le (p : Pz) (left : Int) (h : ¬ szPz p left < 0) : p.lets.length ≤ left.toNat ∧ p.fol.length ≤ left.toNat ∧ 0 ≤ szPz p left ∧ szPz p left ≤ left := by
  unfold szPz at h ⊢
  split at h
  · omega
  · split at h
    · omega
    · rw [if_neg (by omega), if_neg (by omega)]; omega
theorem szPositions_any (v : Value) (p : Pz) (left : Int) (w : World) (hv : PzV 0 w.heap.size w v p) (h0 : 0 ≤ left) (h1 : left ≤ 1048576) :
    Calls Try.prog 6 #[v, .int .i64 left] w fun e w' => e = .returned (.int .i64 (szPz p left)) ∧ Below w.heap.size w w' := by
  obtain ⟨vs, es, rfl, ⟨A1, c1, rfl, hl1, hm1, -⟩, ⟨A2, c2, rfl, hl2, hm2, -⟩⟩ := hv
  by_cases g1 : left < p.lets.length
  · rw [szPz, if_pos g1]
    have hc := szIntS_any A1 p.lets.length c1 left
    rw [if_pos g1] at hc
    have HC := Lib.hid hc
    clear hc
    go_enter Try.func6, Try.ntmps6
    go_wp2_with fail
    refine (HC.out _ (by omega) h0 h1).mono ?_; rintro e w1 ⟨rfl, rfl⟩
    go_wp2
    go_ret
    exact ⟨rfl, (Below.refl _ _).alloc (Nat.le_refl _) _⟩
  · rw [szPz, if_neg g1]
    have hc := szIntS_any A1 p.lets.length c1 left
    rw [if_neg g1] at hc
    have HC := Lib.hid hc
    clear hc
    by_cases g2 : left - p.lets.length < p.fol.length
    · rw [if_pos g2]
      have hd := szIntS_any A2 p.fol.length c2 (left - p.lets.length)
      rw [if_pos g2] at hd
      have HD := Lib.hid hd
      clear hd
      go_enter Try.func6, Try.ntmps6
      go_wp2_with fail
      refine (HC.out _ (by omega) h0 h1).mono ?_; rintro e w1 ⟨rfl, rfl⟩
      go_wp2_with fail
      refine (HD.out _ (by omega) (by omega) (by omega)).mono ?_; rintro e w1 ⟨rfl, rfl⟩
      go_wp2
      go_ret
      exact ⟨rfl, (Below.refl _ _).alloc (Nat.le_refl _) _⟩
    · rw [if_neg g2]
      have hd := szIntS_any A2 p.fol.length c2 (left - p.lets.length)
      rw [if_neg g2] at hd
      have HD := Lib.hid hd
      clear hd
      go_enter Try.func6, Try.ntmps6
      go_wp2_with fail
      refine (HC.out _ (by omega) h0 h1).mono ?_; rintro e w1 ⟨rfl, rfl⟩
      go_wp2_with fail
      refine (HD.out _ (by omega) (by omega) (by omega)).mono ?_; rintro e w1 ⟨rfl, rfl⟩
      go_wp2
      go_ret
      exact ⟨rfl, (Below.refl _ _).alloc (Nat.le_refl _) _⟩
set_option maxHeartbeats 1000000 in
theorem eqPositions_same (v1 v2 : Value) (p : Pz) (w : World) (hv1 : PzV 0 w.heap.size w v1 p) (hv2 : PzV 0 w.heap.size w v2 p) :
    Calls Try.prog 10 #[v1, v2] w fun e w' => e = .returned (.bool true) ∧ Below w.heap.size w w' := by
  have hq1 := hv1
  have hq2 := hv2
  obtain ⟨A1, n1, c1, B1, m1, d1, rfl⟩ := hv1.shape
  obtain ⟨A2, n2, c2, B2, m2, d2, rfl⟩ := hv2.shape
  obtain ⟨vs1, es1, e1, hvs1, hes1⟩ := hq1
  obtain ⟨vs2, es2, e2, hvs2, hes2⟩ := hq2
  simp only [Value.agg.injEq, Array.mk.injEq, List.cons.injEq, true_and, and_true] at e1 e2
  obtain ⟨rfl, rfl⟩ := e1
  obtain ⟨rfl, rfl⟩ := e2
  have hb0 : Below w.heap.size w ((w.alloc (.cells #[.slice A1 n1 c1, .int .i64 p.first, .int .i64 p.last, .slice B1 m1 d1, .bool p.nul] 27)).alloc (.cells #[.slice A2 n2 c2, .int .i64 p.first, .int .i64 p.last, .slice B2 m2 d2, .bool p.nul] 27)) := ((Below.refl _ _).alloc (Nat.le_refl _) _).alloc (by simp) _
  go_enter Try.func10, Try.ntmps10
  go_wp2_with fail
  refine (eqIntS_same _ _ p.lets _ (SlE.keep hvs1 hb0) (SlE.keep hvs2 hb0)).mono ?_
  rintro e w1 ⟨rfl, hb1⟩
  have b0 := ((Blk.new w _ _ w.heap.size rfl).alloc _).keep hb1
  have b1 := (Blk.new (w.alloc _) _ _ (w.heap.size + 1) (by simp)).keep hb1
  have hb2 := below_trans hb0 hb1
  have x1 : w1.cell? ⟨w.heap.size, 1, none⟩ = some (.int .i64 p.first) := b0.cell 1
  have x2 : w1.cell? ⟨w.heap.size, 2, none⟩ = some (.int .i64 p.last) := b0.cell 2
  have x3 : w1.cell? ⟨w.heap.size, 3, none⟩ = some (.slice B1 m1 d1) := b0.cell 3
  have x4 : w1.cell? ⟨w.heap.size, 4, none⟩ = some (.bool p.nul) := b0.cell 4
  have y1 : w1.cell? ⟨w.heap.size + 1, 1, none⟩ = some (.int .i64 p.first) := b1.cell 1
  have y2 : w1.cell? ⟨w.heap.size + 1, 2, none⟩ = some (.int .i64 p.last) := b1.cell 2
  have y3 : w1.cell? ⟨w.heap.size + 1, 3, none⟩ = some (.slice B2 m2 d2) := b1.cell 3
  have y4 : w1.cell? ⟨w.heap.size + 1, 4, none⟩ = some (.bool p.nul) := b1.cell 4
  clear hb0 hb1 b0 b1
  go_wp2_with fail
  refine (eqIntS_same _ _ p.fol _ (SlE.keep hes1 hb2) (SlE.keep hes2 hb2)).mono ?_
  rintro e w2 ⟨rfl, hb3⟩
  have x4 := kcell hb3 x4
  have y4 := kcell hb3 y4
  go_wp2_with fail
  go_ret
  exact ⟨rfl, below_trans hb2 hb3⟩
set_option maxRecDepth 100000 in
set_option maxHeartbeats 4000000 in
theorem toPositions_any (v : Value) (p : Pz) (w : World) (hv : PzV 0 w.heap.size w v p) (h1 : p.lets.length ≤ 1048576) (h2 : p.fol.length ≤ 1048576) :
    Calls Try.prog 8 #[v] w fun e w' => ∃ v', e = .returned v' ∧ PzO w.heap.size w'.heap.size w' v' p ∧ Below w.heap.size w w' := by
  obtain ⟨vs, es, rfl, hvs, hes⟩ := hv
  go_enter Try.func8, Try.ntmps8
  go_wp2_with fail
  refine (toIntS_any vs p.lets _ ?_ h1).mono ?_
  · exact SlE.keep hvs (by repeat (first | exact Below.refl _ _ | refine Below.alloc ?_ (by simp <;> omega) _))
  rintro e w1 ⟨v1, rfl, ho1', hb1⟩
  have b0 := (((Blk.new w _ _ w.heap.size rfl).alloc _).alloc _).keep hb1
  have b1 := ((Blk.new (w.alloc _) _ _ (w.heap.size + 1) (by simp)).alloc _).keep hb1
  have b2 := (Blk.new ((w.alloc _).alloc _) _ _ (w.heap.size + 1 + 1) (by simp)).keep hb1
  have o1 : Only w.heap.size (w.heap.size + 3) w w1 := (((Only.refl _ _ _).alloc _).alloc _ |>.alloc _).trans (Only.of_below hb1 _ _)
  have ho1 : Own (w.heap.size + 3) w1.heap.size w1 _ cI 1 v1 p.lets := ho1'.mono (by simp) (Nat.le_refl _)
  clear ho1'
  obtain ⟨A1, n1, c1, rfl⟩ := ho1.shape
  have s1 : w.heap.size + 3 ≤ w1.heap.size := by have := hb1.size; simpa using this
  have x1 : w1.cell? ⟨w.heap.size, 1, none⟩ = some (.int .i64 p.first) := b0.cell 1
  have x2 : w1.cell? ⟨w.heap.size, 2, none⟩ = some (.int .i64 p.last) := b0.cell 2
  have x3 : w1.cell? ⟨w.heap.size, 3, none⟩ = some es := b0.cell 3
  have y0 : w1.cell? ⟨w.heap.size + 1 + 1, 0, none⟩ = some (.slice none 0 0) := b2.cell 0
  have y1 : w1.cell? ⟨w.heap.size + 1 + 1, 1, none⟩ = some (.int .i64 0) := b2.cell 1
  have y2 : w1.cell? ⟨w.heap.size + 1 + 1, 2, none⟩ = some (.int .i64 0) := b2.cell 2
  have f0 := b2.frozen 0
  have f1 := b2.frozen 1
  have f2 := b2.frozen 2
  have B0 := Lib.hid b0
  have B1 := Lib.hid b1
  have B2 := Lib.hid b2
  have O1 := Lib.hid o1
  have HO1 := Lib.hid ho1
  clear b0 b1 b2 o1 ho1 hb1 hvs
  have HES := Lib.hid hes
  clear hes
  go_wp2_with fail
  have hin : ∀ j, (w.heap.size ≤ (⟨w.heap.size + 1 + 1, j, none⟩ : Addr).block ∧ (⟨w.heap.size + 1 + 1, j, none⟩ : Addr).block < w.heap.size + 3) := fun j => ⟨by simp only; omega, by simp only; omega⟩
  have o3 := ((O1.out.setCell (p := ⟨w.heap.size + 1 + 1, 0, none⟩) (.inl (hin 0)) (.slice A1 n1 c1)).setCell (p := ⟨w.heap.size + 1 + 1, 1, none⟩) (.inl (hin 1)) (.int .i64 p.first)).setCell (p := ⟨w.heap.size + 1 + 1, 2, none⟩) (.inl (hin 2)) (.int .i64 p.last)
  have q2 := ((B2.out.set_ 0 (.slice A1 n1 c1)).set_ 1 (.int .i64 p.first)).set_ 2 (.int .i64 p.last)
  have q1 := ((B1.out.far (p := ⟨w.heap.size + 1 + 1, 0, none⟩) (by simp) (.slice A1 n1 c1)).far (p := ⟨w.heap.size + 1 + 1, 1, none⟩) (by simp) (.int .i64 p.first)).far (p := ⟨w.heap.size + 1 + 1, 2, none⟩) (by simp) (.int .i64 p.last)
  have q0 := ((B0.out.far (p := ⟨w.heap.size + 1 + 1, 0, none⟩) (by simp only; omega) (.slice A1 n1 c1)).far (p := ⟨w.heap.size + 1 + 1, 1, none⟩) (by simp only; omega) (.int .i64 p.first)).far (p := ⟨w.heap.size + 1 + 1, 2, none⟩) (by simp only; omega) (.int .i64 p.last)
  have hz : (((w1.setCell ⟨w.heap.size + 1 + 1, 0, none⟩ (.slice A1 n1 c1)).setCell ⟨w.heap.size + 1 + 1, 1, none⟩ (.int .i64 p.first)).setCell ⟨w.heap.size + 1 + 1, 2, none⟩ (.int .i64 p.last)).heap.size = w1.heap.size := by simp [World.setCell]
  have ho1 := HO1.out.only (((Only.refl w.heap.size (w.heap.size + 3) w1).setCell (p := ⟨w.heap.size + 1 + 1, 0, none⟩) (.inl (hin 0)) (.slice A1 n1 c1)).setCell (p := ⟨w.heap.size + 1 + 1, 1, none⟩) (.inl (hin 1)) (.int .i64 p.first) |>.setCell (p := ⟨w.heap.size + 1 + 1, 2, none⟩) (.inl (hin 2)) (.int .i64 p.last)) (.inr (Nat.le_refl _))
  clear y0 y1 y2 x1 x2 x3 f0 f1 f2
  generalize ((w1.setCell ⟨w.heap.size + 1 + 1, 0, none⟩ (.slice A1 n1 c1)).setCell ⟨w.heap.size + 1 + 1, 1, none⟩ (.int .i64 p.first)).setCell ⟨w.heap.size + 1 + 1, 2, none⟩ (.int .i64 p.last) = wx at *
  simp only [List.setIfInBounds_toArray, List.set_cons_zero, List.set_cons_succ] at q2
  refine (toIntS_any es p.fol _ (SlE.keep HES.out (o3.below (Nat.le_refl _) (Nat.le_refl _))) h2).mono ?_
  rintro e w2 ⟨v2, rfl, ho2', hb2⟩
  have q2 := q2.keep hb2
  have q1 := q1.keep hb2
  have q0 := q0.keep hb2
  have o4 := o3.trans (Only.of_below hb2 _ _)
  have s2 := hb2.size
  have ho1 := ho1.below hb2 (by omega)
  obtain ⟨A2, n2, c2, rfl⟩ := ho2'.shape
  have x4 : w2.cell? ⟨w.heap.size, 4, none⟩ = some (.bool p.nul) := q0.cell 4
  have y0 : w2.cell? ⟨w.heap.size + 1 + 1, 0, none⟩ = some (.slice A1 n1 c1) := q2.cell 0
  have y1 : w2.cell? ⟨w.heap.size + 1 + 1, 1, none⟩ = some (.int .i64 p.first) := q2.cell 1
  have y2 : w2.cell? ⟨w.heap.size + 1 + 1, 2, none⟩ = some (.int .i64 p.last) := q2.cell 2
  have y3 : w2.cell? ⟨w.heap.size + 1 + 1, 3, none⟩ = some (.slice none 0 0) := q2.cell 3
  have y4 : w2.cell? ⟨w.heap.size + 1 + 1, 4, none⟩ = some (.bool false) := q2.cell 4
  have f3 := q2.frozen 3
  have f4 := q2.frozen 4
  have z0 : w2.cell? ⟨w.heap.size + 1, 0, none⟩ = some (.slice none 0 0) := q1.cell 0
  have z1 : w2.cell? ⟨w.heap.size + 1, 1, none⟩ = some (.int .i64 0) := q1.cell 1
  have z2 : w2.cell? ⟨w.heap.size + 1, 2, none⟩ = some (.int .i64 0) := q1.cell 2
  have z3 : w2.cell? ⟨w.heap.size + 1, 3, none⟩ = some (.slice none 0 0) := q1.cell 3
  have z4 : w2.cell? ⟨w.heap.size + 1, 4, none⟩ = some (.bool false) := q1.cell 4
  have g0 := q1.frozen 0
  have g1 := q1.frozen 1
  have g2 := q1.frozen 2
  have g3 := q1.frozen 3
  have g4 := q1.frozen 4
  have lx0 := q0.lt
  have lx1 := q1.lt
  have lx2 := q2.lt
  have HO1 := Lib.hid ho1
  have HO2 := Lib.hid ho2'
  have O4 := Lib.hid o4
  have Q1 := Lib.hid q1
  have hin1 : ∀ j, (w.heap.size ≤ (⟨w.heap.size + 1, j, none⟩ : Addr).block ∧ (⟨w.heap.size + 1, j, none⟩ : Addr).block < w.heap.size + 3) := fun j => ⟨by simp only; omega, by simp only; omega⟩
  have oz := ((((((Only.refl w.heap.size (w.heap.size + 3) w2).setCell (p := ⟨w.heap.size + 1 + 1, 3, none⟩) (.inl (hin 3)) (.slice A2 n2 c2)).setCell (p := ⟨w.heap.size + 1 + 1, 4, none⟩) (.inl (hin 4)) (.bool p.nul)).setCell (p := ⟨w.heap.size + 1, 0, none⟩) (.inl (hin1 0)) (.slice A1 n1 c1)).setCell (p := ⟨w.heap.size + 1, 1, none⟩) (.inl (hin1 1)) (.int .i64 p.first)).setCell (p := ⟨w.heap.size + 1, 2, none⟩) (.inl (hin1 2)) (.int .i64 p.last)).setCell (p := ⟨w.heap.size + 1, 3, none⟩) (.inl (hin1 3)) (.slice A2 n2 c2) |>.setCell (p := ⟨w.heap.size + 1, 4, none⟩) (.inl (hin1 4)) (.bool p.nul)
  have OZ := Lib.hid oz
  clear q0 q1 q2 hb2 ho2' ho1 o3 o4 B0 B1 B2 O1 oz
  go_wp2_with fail
  have hzz := OZ.out.size
  refine bodyPost_ret (v := .agg #[.slice A1 n1 c1, .int .i64 p.first, .int .i64 p.last, .slice A2 n2 c2, .bool p.nul]) (by simp [results, Try.results8, go_sem, z0, z1, z2, z3, z4]) rfl ⟨_, rfl, ⟨_, _, w1.heap.size, rfl, (HO1.out.only OZ.out (.inr (Nat.le_refl _))).mono (by omega) (Nat.le_refl _), (HO2.out.only OZ.out (.inr (by omega))).mono (by omega) hzz, by omega, by omega⟩, (O4.out.trans OZ.out).below (Nat.le_refl _) (Nat.le_refl _)⟩
set_option maxHeartbeats 1000000 in
theorem markPositions_any (lo hi : Nat) (v : Value) (p : Pz) (k : Int) (w : World) (hv : PzO lo hi w v p) (hw : hi ≤ w.heap.size) (hk : 0 ≤ k) (h1 : p.lets.length ≤ 1048576) (h2 : p.fol.length ≤ 1048576) (hk2 : k ≤ 1099511627776) :
    Calls Try.prog 14 #[v, .int .i64 k] w fun e w' => ∃ k', e = .returned (.int .i64 k') ∧ k ≤ k' ∧ k' ≤ k + 8388608 ∧ Only lo hi w w' := by
  obtain ⟨vs, es, mid, rfl, hvs, hes, hm1, hm2⟩ := hv
  have hb0 : Below w.heap.size w (w.alloc (.cells #[vs, .int .i64 p.first, .int .i64 p.last, es, .bool p.nul] 27)) := (Below.refl _ _).alloc (Nat.le_refl _) _
  obtain ⟨A1, n1, c1, rfl⟩ := hvs.shape
  obtain ⟨A2, n2, c2, rfl⟩ := hes.shape
  go_enter Try.func14, Try.ntmps14
  go_wp2_with fail
  refine (markIntS_any lo mid _ _ p.lets k _ (hvs.below hb0 (by omega)) hk (by omega)).mono ?_
  rintro e w1 ⟨rfl, -, ho1⟩
  have b0 := (Blk.new w _ _ w.heap.size rfl).only ho1 (.inr (by omega))
  have x0 : w1.cell? ⟨w.heap.size, 3, none⟩ = some (.slice A2 n2 c2) := b0.cell 3
  have ho2 := (Only.of_below hb0 lo mid).trans ho1
  have hs := ho2.size
  clear hb0 b0
  go_wp2_with fail
  refine (markIntS_any mid hi _ _ p.fol (k + p.lets.length) _ (hes.only ho2 (.inr (Nat.le_refl _))) (by omega) (by omega)).mono ?_
  rintro e w2 ⟨rfl, -, ho3⟩
  go_wp2_with fail
  go_ret
  exact ⟨_, rfl, by omega, by omega, (ho2.mono (Nat.le_refl _) hm2).trans (ho3.mono hm1 (Nat.le_refl _))⟩
end Go.Proofs.Ythnapjodmndlaaa

/- What is behind a letter (the program's side); whether a set accepts (both). -/
namespace Go.Proofs.Ythnapjodmndlaaa
set_option linter.unusedVariables false
set_option linter.unusedSimpArgs false
open Go.ChangeShapes Go.WideShapes Go.ChangeAt Go.RowKit
attribute [local go_sem] ext_cell ext_frozen ext_lt ext_lt1 ext_lt2 ext_lt3 ltn2 ltn3 ltn13 lts1 lts2 lts3

set_option maxRecDepth 100000 in
set_option maxHeartbeats 4000000 in
theorem implAfter (v : Value) (p : Pz) (s : Nat) (k : Int) (w : World) (hv : PzV 0 w.heap.size w v p) (hok : pzOk p = true) (hs : s < 2 ^ 21) :
    Calls Try.prog 36 #[v, .int .i64 (s : Int), .int .i64 k] w fun e w' => e = .returned (.int .i64 ((aftP p s k : Nat) : Int)) ∧ Below w.heap.size w w' := by
  obtain ⟨R, hR⟩ : ∃ R, R = aftP p s k := ⟨_, rfl⟩
  rw [← hR]
  have HR := Lib.hid hR
  clear hR
  obtain ⟨vl, vf, rfl, ⟨A, c, rfl, hl, hm, hC⟩, ⟨B, d, rfl, hl2, hm2, hC2⟩⟩ := hv
  have hpf := pz_facts hok
  have HOK := Lib.hid hok
  have HFL := Lib.hid (folP_lt hok s)
  have HF0 := Lib.hid (setP_lt hpf.1 hpf.2.2.2.2.1)
  have HFO := Lib.hid (fun x hx => setP_lt hpf.1 (hpf.2.2.2.1 x hx))
  have HLF := Lib.hid hpf.2.1
  have h20 := hpf.1
  unfold maxLen at hm hm2
  obtain ⟨N, hN⟩ : ∃ N, N = p.lets.length := ⟨_, rfl⟩
  rw [hpf.2.1] at hl2
  rw [← hN] at h20 hl hl2 ⊢
  have HN := Lib.hid hN
  obtain ⟨W0, hW0⟩ : ∃ W0, W0 = w.alloc (.cells #[.slice A N c, .int .i64 p.first, .int .i64 p.last, .slice B p.fol.length d, .bool p.nul] 27) := ⟨_, rfl⟩
  have hbk : Blk W0 w.heap.size 27 #[.slice A N c, .int .i64 p.first, .int .i64 p.last, .slice B p.fol.length d, .bool p.nul] := by rw [hW0]; exact Blk.new w _ _ _ rfl
  have hb0 : Below w.heap.size w W0 := by rw [hW0]; exact (Below.refl _ _).alloc (Nat.le_refl _) _
  have hsz : W0.heap.size = w.heap.size + 1 := by rw [hW0]; simp
  have HC := Lib.hid (show ∀ (i : Nat) x, p.lets[i]? = some x → ∃ b o, A = some ⟨b, o, none⟩ ∧ b < w.heap.size ∧ W0.cell? ⟨b, o + i, none⟩ = some (.int .i64 x) from fun i x hx => by
    obtain ⟨b, o, hA, -, hb, hc⟩ := hC i x hx
    refine ⟨b, o, hA, hb, kcell hb0 ?_⟩
    simpa using hc 0 _ rfl)
  have HC2 := Lib.hid (show ∀ (i : Nat) x, p.fol[i]? = some x → ∃ b o, B = some ⟨b, o, none⟩ ∧ b < w.heap.size ∧ W0.cell? ⟨b, o + i, none⟩ = some (.int .i64 x) from fun i x hx => by
    obtain ⟨b, o, hA, -, hb, hc⟩ := hC2 i x hx
    refine ⟨b, o, hA, hb, kcell hb0 ?_⟩
    simpa using hc 0 _ rfl)
  have HB0 := Lib.hid hb0
  clear hpf hok hC hC2 hN hb0
  go_enter Try.func36, Try.ntmps36
  clear hl hl2 hm hm2
  have x0 : W0.cell? ⟨w.heap.size, 0, none⟩ = some (.slice A N c) := by exact hbk.cell 0
  have x1 : W0.cell? ⟨w.heap.size, 1, none⟩ = some (.int .i64 p.first) := by exact hbk.cell 1
  have x3 : W0.cell? ⟨w.heap.size, 3, none⟩ = some (.slice B p.fol.length d) := by exact hbk.cell 3
  clear hbk
  have HA1 := Lib.hid (and_one (s := s) (by omega))
  go_upto_region 1 with fail
  rw [← hW0]
  clear hW0
  go_upto_if 15 with fail
  go_cut [7] (fun mm wx => mm = .int .i64 ((folP p s 0 : Nat) : Int) ∧ wx = W0)
  case first =>
    have HF := Lib.hid (folP_zero p s)
    cases hb : s.testBit 0 with
    | true =>
      rw [hb, if_pos rfl] at HA1 HF
      have hc : (bits .and .i64 (s : Int) 1 == 1) = true := by rw [HA1.out]; rfl
      have HE := Lib.hid (show (p.first) = ((folP p s 0 : Nat) : Int) by rw [HF.out]; have := HF0.out.1; omega)
      clear hb
      go_wp2_with fail
      go_meet
      exact ⟨by rw [← HE.out], rfl⟩
    | false =>
      rw [hb, if_neg (by simp)] at HA1 HF
      have hc : (bits .and .i64 (s : Int) 1 == 1) = false := by rw [HA1.out]; rfl
      clear hb
      go_wp2_with fail
      go_meet
      exact ⟨by rw [HF.out]; rfl, rfl⟩
  case rest =>
    obtain ⟨rfl, rfl⟩ := hcut
    clear HA1 HF0
    go_wp2_with fail
    go_loopw [7, 8, 9, 21] (fun mm _ _ ii wr => ∃ i : Nat, i ≤ N ∧ ii = .int .i64 (i : Int) ∧ mm = .int .i64 ((folP p s i : Nat) : Int) ∧ wr = wc) (fun _ _ _ ii _ => N - (intOf ii).toNat)
    case atStart => exact ⟨0, Nat.zero_le _, rfl, rfl, rfl⟩
    case round =>
      obtain ⟨i, hi, rfl, rfl, rfl⟩ := hrel
      by_cases hlt : i < N
      · have hxi : p.fol[i]? = some (p.fol[i]'(by rw [HLF.out, ← HN.out]; exact hlt)) := List.getElem?_eq_getElem _
        have HX := Lib.hid (HFO.out _ (List.mem_of_getElem? hxi))
        have HGD := Lib.hid (show p.fol.getD i 0 = _ by rw [List.getD_eq_getElem?_getD, hxi])
        generalize p.fol[i]'(by rw [HLF.out, ← HN.out]; exact hlt) = x at hxi HX HGD
        obtain ⟨b1, o1, rfl, hb1, d0⟩ := HC2.out i x hxi
        obtain ⟨y, rfl⟩ : ∃ y : Nat, x = (y : Int) := ⟨x.toNat, by have := HX.out.1; omega⟩
        have HFS := Lib.hid (folP_succ p s i)
        have hii : (i : Int) < (N : Int) := by omega
        have hi2 : (i : Int) < (p.fol.length : Int) := by rw [HLF.out, ← HN.out]; omega
        clear hxi
        cases hb : s.testBit (i + 1) with
        | false =>
          rw [hb, if_neg (by simp)] at HFS
          have hc : (bits .and .i64 ((s : Int) / 2 ^ (i + 1)) 1 == 1) = false := by rw [bit_off (by omega) (by omega) hb]; rfl
          clear hb
          go_wp2_with fail
          go_roundw
          case rel => exact ⟨i + 1, by omega, by go_num, by rw [HFS.out], trivial⟩
          case measure => simp [intOf]; omega
        | true =>
          rw [hb, if_pos rfl, HGD.out] at HFS
          have hc : (bits .and .i64 ((s : Int) / 2 ^ (i + 1)) 1 == 1) = true := by rw [bit_on (by omega) (by omega) hb]; rfl
          have hor : bits .or .i64 ((folP p s i : Nat) : Int) (y : Int) = ((folP p s (i + 1) : Nat) : Int) := by
            have h1 := HFL.out i
            have h2 := HX.out.2
            rw [HFS.out]
            exact i64_or_nat _ _ (by omega) (by simp at h2; omega)
          clear hb
          go_wp2_with fail
          go_roundw
          case rel => exact ⟨i + 1, by omega, by go_num, rfl, trivial⟩
          case measure => simp [intOf]; omega
      · obtain rfl : i = N := by omega
        obtain ⟨wo, rfl⟩ : ∃ wo : World, wo = wr := ⟨_, rfl⟩
        obtain ⟨M, hM⟩ : ∃ M, M = folP p s i := ⟨_, rfl⟩
        have hml : M < 2 ^ 20 := by rw [hM]; exact HFL.out i
        rw [← hM]
        have HMM := Lib.hid hM
        clear hM hlt hi HFL
        have hi3 : ¬ (i : Int) < (p.fol.length : Int) := by rw [HLF.out, ← HN.out]; omega
        have hi4 : decide ((i : Int) < (p.fol.length : Int)) = false := decide_eq_false hi3
        have hi5 : ¬ i < p.fol.length := by omega
        go_wp2_with fail
        go_loopw [10, 11, 12, 39] (fun oo _ _ ii wr => ∃ j : Nat, j ≤ i ∧ ii = .int .i64 (j : Int) ∧ oo = .int .i64 ((aftI p M k j : Nat) : Int) ∧ wr = wo) (fun _ _ _ ii _ => i - (intOf ii).toNat)
        case atStart => exact ⟨0, Nat.zero_le _, rfl, rfl, rfl⟩
        case round =>
          obtain ⟨j, hj, rfl, rfl, rfl⟩ := hrel
          by_cases hlj : j < i
          · have hxj : p.lets[j]? = some (p.lets[j]'(by rw [← HN.out]; exact hlj)) := List.getElem?_eq_getElem _
            have HGD := Lib.hid (show p.lets.getD j 0 = _ by rw [List.getD_eq_getElem?_getD, hxj])
            generalize p.lets[j]'(by rw [← HN.out]; exact hlj) = x at hxj HGD
            obtain ⟨b1, o1, rfl, hb1, d0⟩ := HC.out j x hxj
            have HAS := Lib.hid (aftI_succ p M k j)
            have hal := aftI_lt p M k j (by omega)
            have hii : (j : Int) < (i : Int) := by omega
            simp only [Option.getD_some] at HGD
            rw [HGD.out] at HAS
            clear hxj HGD
            by_cases hk : x = k
            · rw [decide_eq_true hk, Bool.and_true] at HAS
              have hkb : (x == k) = true := by simpa using hk
              have hkd : decide (x = k) = true := by simpa using hk
              clear hk
              cases hb : M.testBit j with
              | false =>
                rw [hb, if_neg (by simp)] at HAS
                have hc : (bits .and .i64 ((M : Int) / 2 ^ j) 1 == 1) = false := by rw [bit_off (by omega) (by omega) hb]; rfl
                clear hb
                go_wp2_with fail
                go_roundw
                case rel => exact ⟨j + 1, by omega, by go_num, by rw [HAS.out], trivial⟩
                case measure => simp [intOf]; omega
              | true =>
                rw [hb, if_pos rfl] at HAS
                have hc : (bits .and .i64 ((M : Int) / 2 ^ j) 1 == 1) = true := by rw [bit_on (by omega) (by omega) hb]; rfl
                have hsh := shl_bit2 (s := j + 1) (by omega)
                have hsh3 := shl_bit3 (s := j + 1) (by omega)
                have hor := or_ins (m := aftI p M k j) (s := j + 1) (by omega) (by omega)
                rw [← HAS.out] at hor
                clear hb
                go_wp2_with fail
                go_roundw
                case rel => exact ⟨j + 1, by omega, by go_num, rfl, trivial⟩
                case measure => simp [intOf]; omega
            · rw [decide_eq_false hk, Bool.and_false, if_neg (by simp)] at HAS
              have hkb : (x == k) = false := by simpa using hk
              have hkd : decide (x = k) = false := by simpa using hk
              clear hk
              go_wp2_with fail
              go_roundw
              case rel => exact ⟨j + 1, by omega, by go_num, by rw [HAS.out], trivial⟩
              case measure => simp [intOf]; omega
          · obtain rfl : j = i := by omega
            go_wp2_with fail
            go_ret
            exact ⟨by rw [HR.out, aftP, ← HN.out, ← HMM.out]; rfl, HB0.out⟩
end Go.Proofs.Ythnapjodmndlaaa

/- The pairs that follow a pair of positions by a letter (the program's (twin).next). -/
namespace Go.Proofs.Ythnapjodmndlaaa
set_option linter.unusedVariables false
set_option linter.unusedSimpArgs false
open Go.ChangeShapes Go.WideShapes Go.ChangeAt Go.RowKit
attribute [local go_sem] ext_cell ext_frozen ext_lt ext_lt1 ext_lt2 ext_lt3 ltn2 ltn3 ltn13 lts1 lts2 lts3

def cTw (t : Twn) : List Value := [.int .i64 (t.1 : Int), .int .i64 (t.2.1 : Int), .bool t.2.2]
theorem cTw_len (t : Twn) : (cTw t).length = 3 := rfl
theorem cTw_one (t : Twn) : ∀ u ∈ cTw t, u.oneCell' = true := by intro u hu; simp only [cTw, List.mem_cons, List.not_mem_nil, or_false] at hu; rcases hu with rfl | rfl | rfl <;> rfl
def rowT (d : Bool) (i Y m : Nat) : List Twn := (mem m Y).map fun j => (i, j, d || decide (i ≠ j))
def upT (d : Bool) (X Y n : Nat) : List Twn := (mem n X).flatMap fun i => rowT d i Y 21
theorem rowT_len (d : Bool) (i Y m : Nat) : (rowT d i Y m).length ≤ m := by rw [rowT, List.length_map]; exact mem_len m Y
theorem upT_len (d : Bool) (X Y : Nat) : ∀ n, (upT d X Y n).length ≤ n * 21
  | 0 => by simp [upT, mem_zero]
  | n + 1 => by
    have ih := upT_len d X Y n
    have hr := rowT_len d n Y 21
    rw [upT, mem_succ, List.flatMap_append, List.length_append]
    have e : ((mem n X).flatMap fun i => rowT d i Y 21) = upT d X Y n := rfl
    rw [e]
    split
    · simp only [List.flatMap_cons, List.flatMap_nil, List.append_nil]; omega
    · simp; omega
theorem elTw : ElemOk Try.prog 57 56 (.agg #[.int .i64 0, .int .i64 0, .bool false]) 3 24 := ⟨Try.underlying57, by kernel_rfl, rfl, by omega⟩
set_option maxRecDepth 100000 in
set_option maxHeartbeats 4000000 in
theorem twinNext (a b : Nat) (d : Bool) (v : Value) (p : Pz) (k : Nat) (w : World) (hv : PzV 0 w.heap.size w v p) (hok : pzOk p = true) (ha : a ≤ 20) (hb : b ≤ 20) :
    Calls Try.prog 30 #[.agg #[.int .i64 (a : Int), .int .i64 (b : Int), .bool d], v, .int .i64 (k : Int)] w fun e w' => ∃ v', e = .returned v' ∧ Own w.heap.size w'.heap.size w' 56 cTw 3 v' (twnX p k (a, b, d)) ∧ Below w.heap.size w w' := by
  obtain ⟨R, hR⟩ : ∃ R, R = twnX p k (a, b, d) := ⟨_, rfl⟩
  rw [← hR]
  have HR := Lib.hid hR
  clear hR
  have HV := Lib.hid hv
  have HOK := Lib.hid hok
  obtain ⟨vl, vf, rfl, h1, h2⟩ := hv
  obtain ⟨A, n, c, rfl⟩ := h1.shape
  obtain ⟨B, n2, c2, rfl⟩ := h2.shape
  have hXl := aftI_lt p (folP p (bit a) p.lets.length) (k : Int) p.lets.length (pz_facts hok).1
  have hYl := aftI_lt p (folP p (bit b) p.lets.length) (k : Int) p.lets.length (pz_facts hok).1
  have hba : bit a < 2 ^ 21 := Nat.pow_lt_pow_right (by decide) (by omega)
  have hbb : bit b < 2 ^ 21 := Nat.pow_lt_pow_right (by decide) (by omega)
  have hsa := shl_bit2 (s := a) (by omega)
  have hsb := shl_bit2 (s := b) (by omega)
  have hsa3 := shl_bit3 (s := a) (by omega)
  have hsb3 := shl_bit3 (s := b) (by omega)
  clear h1 h2 hok
  obtain ⟨W0, hW0⟩ : ∃ W0, W0 = ((w.alloc (.cells #[.int .i64 (a : Int), .int .i64 (b : Int), .bool d] 56)).alloc (.cells #[.slice A n c, .int .i64 p.first, .int .i64 p.last, .slice B n2 c2, .bool p.nul] 27)).alloc (.cells #[] 56) := ⟨_, rfl⟩
  have hbk : Blk W0 w.heap.size 56 #[.int .i64 (a : Int), .int .i64 (b : Int), .bool d] := by rw [hW0]; exact ((Blk.new w _ _ _ rfl).alloc _).alloc _
  have hbp : Blk W0 (w.heap.size + 1) 27 #[.slice A n c, .int .i64 p.first, .int .i64 p.last, .slice B n2 c2, .bool p.nul] := by rw [hW0]; exact (Blk.new _ _ _ _ (by simp)).alloc _
  have hb0 : Below w.heap.size w W0 := by rw [hW0]; exact (((Below.refl _ _).alloc (Nat.le_refl _) _).alloc (by simp) _).alloc (by simp; omega) _
  have hsz : W0.heap.size = w.heap.size + 3 := by rw [hW0]; simp
  have hrow : W0.ownsRow (w.heap.size + 2) 56 3 (.slice (some ⟨w.heap.size + 2, 0, none⟩) 0 0) 0 [] := by
    have h := World.ownsRow_lit (base := w.heap.size + 2) (e := 56) (size := 3) ((w.alloc (.cells #[.int .i64 (a : Int), .int .i64 (b : Int), .bool d] 56)).alloc (.cells #[.slice A n c, .int .i64 p.first, .int .i64 p.last, .slice B n2 c2, .bool p.nul] 27)) #[] 0 (by simp) (by decide) rfl
    rw [hW0]
    simpa using h
  have HROW := Lib.hid hrow
  have HB0 := Lib.hid hb0
  have HAF := Lib.hid (fun (s : Nat) (W : World) (h : Below w.heap.size w W) (hs : s < 2 ^ 21) => implAfter _ p s (k : Int) W (HV.out.keep h) HOK.out hs)
  clear hrow
  go_enter Try.func30, Try.ntmps30
  have x0 : W0.cell? ⟨w.heap.size, 0, none⟩ = some (.int .i64 (a : Int)) := by exact hbk.cell 0
  have x1 : W0.cell? ⟨w.heap.size, 1, none⟩ = some (.int .i64 (b : Int)) := by exact hbk.cell 1
  have x2 : W0.cell? ⟨w.heap.size, 2, none⟩ = some (.bool d) := by exact hbk.cell 2
  have y0 : W0.cell? ⟨w.heap.size + 1, 0, none⟩ = some (.slice A n c) := by exact hbp.cell 0
  have y1 : W0.cell? ⟨w.heap.size + 1, 1, none⟩ = some (.int .i64 p.first) := by exact hbp.cell 1
  have y2 : W0.cell? ⟨w.heap.size + 1, 2, none⟩ = some (.int .i64 p.last) := by exact hbp.cell 2
  have y3 : W0.cell? ⟨w.heap.size + 1, 3, none⟩ = some (.slice B n2 c2) := by exact hbp.cell 3
  have y4 : W0.cell? ⟨w.heap.size + 1, 4, none⟩ = some (.bool p.nul) := by exact hbp.cell 4
  clear hbk hbp
  have hl0 : w.heap.size < W0.heap.size := by omega
  have hl1 : w.heap.size + 1 < W0.heap.size := by omega
  go_upto_region 2 with fail
  rw [← hW0]
  clear hW0 hb0
  refine wp_region_ext_lit (by kernel_rfl) (by kernel_rfl) ?_
  repeat (go_big_quiet_step ((go_at_call 36; exact Calls.ext_of (HAF.out _ _ (below_trans HB0.out (ext_below _ _)) (by first | exact hba | exact hbb)))))
  refine wpQuiet_nil ?_
  intro _ hw'
  obtain ⟨u2, hw''⟩ := hw'
  subst hw''
  have hb1 := below_trans HB0.out (ext_below W0 u2)
  have HROW1 := Lib.hid (ownsRow_below HROW.out (ext_below W0 u2) (Nat.le_refl _))
  have x2 := kcell (ext_below W0 u2) x2
  obtain ⟨X, hX⟩ : ∃ X, X = aftP p (bit a) (k : Int) := ⟨_, rfl⟩
  obtain ⟨Y, hY⟩ : ∃ Y, Y = aftP p (bit b) (k : Int) := ⟨_, rfl⟩
  have hXl : X < 2 ^ 21 := by rw [hX]; exact hXl
  have hYl : Y < 2 ^ 21 := by rw [hY]; exact hYl
  have HRX := Lib.hid (show R = upT d X Y 21 by rw [HR.out, hX, hY]; rfl)
  rw [← hX, ← hY]
  have hs1 := (ext_below W0 u2).size
  generalize ext W0 u2 = W1 at *
  have HB1 := Lib.hid hb1
  have HX2 := Lib.hid x2
  clear hX hY HR hb1 x0 x1 x2 y0 y1 y2 y3 y4 HAF HB0 HROW hsa hsb hsa3 hsb3 HV HOK
  go_wp2_with fail
  go_loopw [7, 10, 11] (fun oo ii _ wr => ∃ i : Nat, i ≤ 21 ∧ ii = .int .i64 (i : Int) ∧ Own (w.heap.size + 1 + 1) wr.heap.size wr 56 cTw 3 oo (upT d X Y i) ∧ Below (w.heap.size + 1 + 1) W1 wr) (fun _ ii _ _ => 21 - (intOf ii).toNat)
  case atStart => exact ⟨0, by omega, rfl, Own.of_row HROW1.out rfl rfl, Below.refl _ _⟩
  case round =>
    obtain ⟨i, hi, rfl, how, hbel⟩ := hrel
    obtain ⟨wo, rfl⟩ : ∃ wo : World, wo = wr := ⟨_, rfl⟩
    have HOW := Lib.hid how
    have HBEL := Lib.hid hbel
    obtain ⟨A2, m2, d2, rfl⟩ := how.shape
    clear how hbel
    by_cases hle : 2 ^ i ≤ X
    · have hi21 : i < 21 := by
        by_cases h : i < 21
        · exact h
        · have := Nat.pow_le_pow_right (n := 2) (by decide) (show 21 ≤ i by omega)
          omega
      have hon := shr_on (by omega) hle
      have hz := HBEL.out.size
      clear hle
      go_wp2_with fail
      clear hon
      obtain ⟨L, hL⟩ : ∃ L, L = upT d X Y i := ⟨_, rfl⟩
      have hLl := upT_len d X Y i
      rw [← hL] at HOW hLl
      have HLL := Lib.hid hL
      clear hL
      cases hbi : X.testBit i with
      | false =>
        have HU := Lib.hid (show upT d X Y (i + 1) = L by rw [HLL.out, upT, mem_no hbi]; rfl)
        have hci : (bits .and .i64 ((X : Int) / 2 ^ i) 1 == 1) = false := by rw [bit_off (by omega) (by omega) hbi]; rfl
        clear hbi
        go_loopw [7, 11] (fun oo jj wr => ∃ j : Nat, j ≤ 21 ∧ jj = .int .i64 (j : Int) ∧ oo = .slice A2 m2 d2 ∧ wr = wo) (fun _ jj _ => 21 - (intOf jj).toNat)
        case atStart => exact ⟨0, by omega, rfl, rfl, rfl⟩
        case round =>
          obtain ⟨j, hj, rfl, rfl, rfl⟩ := hrel
          by_cases hle : 2 ^ j ≤ Y
          · have hj21 : j < 21 := by
              by_cases h : j < 21
              · exact h
              · have := Nat.pow_le_pow_right (n := 2) (by decide) (show 21 ≤ j by omega)
                omega
            have hon := shr_on (by omega) hle
            clear hle
            go_wp2_with fail
            go_roundw
            case rel => exact ⟨j + 1, by omega, by go_num, rfl, trivial⟩
            case measure => simp [intOf]; omega
          · have hoff := shr_off (m := Y) (i := j) (by omega) (by omega)
            clear hle
            go_wp2_with fail
            go_roundw
            case rel => exact ⟨i + 1, by omega, by go_num, by rw [HU.out]; exact HOW.out, HBEL.out⟩
            case measure => simp [intOf]; omega
      | true =>
        have HU := Lib.hid (show upT d X Y (i + 1) = L ++ rowT d i Y 21 by rw [HLL.out, upT, mem_yes hbi, List.flatMap_append]; simp [upT])
        have hci : (bits .and .i64 ((X : Int) / 2 ^ i) 1 == 1) = true := by rw [bit_on (by omega) (by omega) hbi]; rfl
        clear hbi
        go_loopw [7, 11] (fun oo jj wr => ∃ j : Nat, j ≤ 21 ∧ jj = .int .i64 (j : Int) ∧ Own (w.heap.size + 1 + 1) wr.heap.size wr 56 cTw 3 oo (L ++ rowT d i Y j) ∧ Below (w.heap.size + 1 + 1) W1 wr) (fun _ jj _ => 21 - (intOf jj).toNat)
        case atStart => exact ⟨0, by omega, rfl, by simpa [rowT, mem_zero] using HOW.out, HBEL.out⟩
        case round =>
          obtain ⟨j, hj, rfl, how, hbel⟩ := hrel
          have HOW2 := Lib.hid how
          have HBEL2 := Lib.hid hbel
          obtain ⟨A3, m3, d3, rfl⟩ := how.shape
          have hz2 := hbel.size
          have x2 : wr.cell? ⟨w.heap.size, 2, none⟩ = some (.bool d) := (hbel.cell (p := ⟨w.heap.size, 2, none⟩) (by simp only; omega)).trans HX2.out
          clear how hbel
          by_cases hle : 2 ^ j ≤ Y
          · have hj21 : j < 21 := by
              by_cases h : j < 21
              · exact h
              · have := Nat.pow_le_pow_right (n := 2) (by decide) (show 21 ≤ j by omega)
                omega
            have hon := shr_on (by omega) hle
            have hrl := rowT_len d i Y j
            obtain ⟨Q, hQ⟩ : ∃ Q, Q = L ++ rowT d i Y j := ⟨_, rfl⟩
            have hql : Q.length ≤ 1000 := by rw [hQ, List.length_append]; omega
            rw [← hQ] at HOW2
            have HQ := Lib.hid hQ
            clear hle hQ
            cases hbj : Y.testBit j with
            | false =>
              have HT := Lib.hid (show L ++ rowT d i Y (j + 1) = Q by rw [HQ.out, rowT, mem_no hbj]; rfl)
              have hcj : (bits .and .i64 ((Y : Int) / 2 ^ j) 1 == 1) = false := by rw [bit_off (by omega) (by omega) hbj]; rfl
              clear hbj
              go_wp2_with fail
              go_roundw
              case rel => exact ⟨j + 1, by omega, by go_num, by rw [HT.out]; exact HOW2.out, HBEL2.out⟩
              case measure => simp [intOf]; omega
            | true =>
              have HT := Lib.hid (show L ++ rowT d i Y (j + 1) = Q ++ [(i, j, d || decide (i ≠ j))] by rw [HQ.out, rowT, mem_yes hbj, List.map_append, ← List.append_assoc]; rfl)
              have hcj : (bits .and .i64 ((Y : Int) / 2 ^ j) 1 == 1) = true := by rw [bit_on (by omega) (by omega) hbj]; rfl
              have hij : ((i : Int) != (j : Int)) = decide (i ≠ j) := by
                by_cases h : i = j
                · subst h; simp
                · have h2 : ¬ (i : Int) = (j : Int) := by omega
                  rw [decide_eq_true h]
                  simpa using h2
              clear hbj
              obtain ⟨D, hD⟩ : ∃ D, D = (d || decide (i ≠ j)) := ⟨_, rfl⟩
              rw [← hD] at HT
              cases d with
              | true =>
                obtain rfl : D = true := by rw [hD]; rfl
                clear hD hij
                go_wp2_with (at_builtin; (refine wpList_append1 cTw elTw rfl _ _ rfl (w.heap.size + 1 + 1) _ Q (i, j, true) _ 1 _ (by rfl) HOW2.out.1 (by rfl) rfl rfl rfl (cTw_one _) (by omega) (by omega) (by omega) ?_); intro v' w4 hrow' hb4 hat4 hgr4)
                go_wp2_with fail
                go_roundw
                case rel => exact ⟨j + 1, by omega, by go_num, by rw [HT.out]; exact Own.of_row hrow' rfl rfl, HBEL2.out.trans hb4⟩
                case measure => simp [intOf]; omega
              | false =>
                have HD := Lib.hid (show D = decide (i ≠ j) by rw [hD]; rfl)
                rw [show decide (i ≠ j) = D from HD.out.symm] at hij
                clear hD HD
                go_wp2_with (at_builtin; (refine wpList_append1 cTw elTw rfl _ _ rfl (w.heap.size + 1 + 1) _ Q (i, j, D) _ 1 _ (by rfl) HOW2.out.1 (by rfl) rfl rfl rfl (cTw_one _) (by omega) (by omega) (by omega) ?_); intro v' w4 hrow' hb4 hat4 hgr4)
                go_wp2_with fail
                go_roundw
                case rel => exact ⟨j + 1, by omega, by go_num, by rw [HT.out]; exact Own.of_row hrow' rfl rfl, HBEL2.out.trans hb4⟩
                case measure => simp [intOf]; omega
          · have hoff := shr_off (m := Y) (i := j) (by omega) (by omega)
            have HEQ := Lib.hid (show rowT d i Y 21 = rowT d i Y j by rw [rowT, rowT, mem_stop (show Y < 2 ^ j by omega) hj])
            clear hle
            go_wp2_with fail
            go_roundw
            case rel => exact ⟨i + 1, by omega, by go_num, by rw [HU.out, HEQ.out]; exact HOW2.out, HBEL2.out⟩
            case measure => simp [intOf]; omega
    · have hoff := shr_off (m := X) (i := i) (by omega) (by omega)
      have HEND := Lib.hid (show upT d X Y 21 = upT d X Y i by rw [upT, upT, mem_stop (show X < 2 ^ i by omega) hi])
      clear hle
      go_wp2_with fail
      go_ret
      exact ⟨_, rfl, by rw [HRX.out, HEND.out]; exact ⟨ownsRow_mono HOW.out.1 (by omega), HOW.out.2⟩, HB1.out.trans (HBEL.out.mono (by omega))⟩
end Go.Proofs.Ythnapjodmndlaaa

/- Maps whose keys are pairs of runs: such a map as a function from pairs to values. -/
namespace Go.Proofs.Ythnapjodmndlaaa
set_option linter.unusedVariables false
set_option linter.unusedSimpArgs false
open Go.ChangeShapes Go.WideShapes Go.ChangeAt Go.RowKit Go.Maps

/-- how an element is told: by itself -/
def encS : Value → Option (DataW Unit × List MemPlace)
  | .bool x => some (.lit (.bool x), [])
  | .int .i64 a => some (.lit (.int .i64 a), [])
  | .slice none n c => some (.slice [.lit (.int .i64 (n : Int)), .lit (.int .i64 (c : Int))] [], [])
  | .slice (some ⟨g, o, none⟩) n c => some (.slice [.lit (.int .i64 (g : Int)), .lit (.int .i64 (o : Int)), .lit (.int .i64 (n : Int)), .lit (.int .i64 (c : Int))] [], [])
  | _ => none
theorem encS_inj {v v' : Value} {d : DataW Unit} {p p' : List MemPlace} (h : encS v = some (d, p)) (h' : encS v' = some (d, p')) : v = v' := by
  unfold encS at h h'
  split at h <;> split at h' <;> simp_all
  all_goals (try (obtain ⟨h1, h2⟩ := h; subst h1; simp_all))
  all_goals omega
theorem key3b {P : Program} {k : TypeId} {f0 f1 f2 : Field} (hu : P.underlying k = some (.struct #[f0, f1, f2])) (h1 : P.keyType k = true) (hc : P.cellsOf k = 3) (h0 : P.underlying f0.type = some (.int .i64)) (h0' : P.underlying f1.type = some (.int .i64)) (h0'' : P.underlying f2.type = some .bool)
    (c0 : P.cellsOf f0.type = 1) (c1 : P.cellsOf f1.type = 1) (c2 : P.cellsOf f2.type = 1) (o0 : f0.offset = 0) (o1 : f1.offset = 1) (o2 : f2.offset = 2) (n0 : (f0.name != "_") = true) (n1 : (f1.name != "_") = true) (n2 : (f2.name != "_") = true) {n : Nat} (hn : P.types.size = n + 1)
    (x s : Int) (f : Bool) (hx : (Lit.int .i64 x).wf = true) (hs : (Lit.int .i64 s).wf = true) : keyOf P k (.agg #[.int .i64 x, .int .i64 s, .bool f]) = some (.string (keyBytes [.int .i64 x, .int .i64 s, .bool f])) := by
  have h4 : (Value.agg #[.int .i64 x, .int .i64 s, .bool f]).formed P k = true := by simp [Value.formed, hu, hc]
  simp only [bne_iff_ne, ne_eq] at n0 n1 n2
  simp [keyOf, hu, h1, h4, hn, Program.keyLits, hc, h0, h0', h0'', c0, c1, c2, o0, o1, o2, n0, n1, n2, hx, hs, Value.cells]
theorem laidOutT : laidOutB Try.prog = true := by kernel_rfl
theorem wideTwin : (match Try.prog.underlying 56 with | some (.array _ _) | some (.struct _) => true | _ => false) = true := by rw [Try.underlying56]
theorem rowTwin : decide (56 < Try.prog.types.size) = true := by kernel_rfl
theorem typeTwin : Try.prog.keyTypeAt 5 56 = true := by kernel_rfl
set_option maxRecDepth 100000 in
theorem keyedTwin : Keyed Try.prog 56 := Keyed.of_law (deep_law_laid laidOutT (m := 5) (by decide) (of_decide_eq_true rowTwin) typeTwin wideTwin)
theorem sizeTwin : ∃ n, Try.prog.types.size = n + 1 := ⟨Try.prog.types.size - 1, by have h : 0 < Try.prog.types.size := of_decide_eq_true (by kernel_rfl); omega⟩
def twK (t : Twn) : Lit := .string (keyBytes [.int .i64 (t.1 : Int), .int .i64 (t.2.1 : Int), .bool t.2.2])
abbrev twV (t : Twn) : Value := .agg #[.int .i64 (t.1 : Int), .int .i64 (t.2.1 : Int), .bool t.2.2]
def twLow (t : Twn) : Prop := t.1 ≤ 20 ∧ t.2.1 ≤ 20
theorem keyTTwin : Try.prog.keyType 56 = true := by kernel_rfl
theorem cellsTwin : Try.prog.cellsOf 56 = 3 := by kernel_rfl
theorem cellsIntT : Try.prog.cellsOf 3 = 1 := by kernel_rfl
theorem cellsBoolT : Try.prog.cellsOf 4 = 1 := by kernel_rfl
theorem wf_small {n : Nat} (h : n ≤ 20) : (Lit.int .i64 (n : Int)).wf = true := by
  have e1 : IntKind.i64.min = -9223372036854775808 := by decide
  have e2 : IntKind.i64.max = 9223372036854775807 := by decide
  simp [Lit.wf, IntKind.wrap] <;> omega
theorem keyTwin {t : Twn} (h : twLow t) : keyOf Try.prog 56 (twV t) = some (twK t) := by
  obtain ⟨n, hn⟩ := sizeTwin
  exact key3b Try.underlying56 keyTTwin cellsTwin Try.underlying3 Try.underlying3 Try.underlying4 cellsIntT cellsIntT cellsBoolT rfl rfl rfl (by decide) (by decide) (by decide) hn _ _ _ (wf_small h.1) (wf_small h.2)
theorem twK_inj {t u : Twn} (ht : twLow t) (hu : twLow u) (h : twK t = twK u) : t = u := by
  have h1 := keyTwin ht
  have h2 := keyTwin hu
  rw [← h] at h2
  have h3 := keyedTwin.inj h1 h2
  obtain ⟨a, b, c⟩ := t
  obtain ⟨a', b', c'⟩ := u
  simp only [twV, Value.agg.injEq, Array.mk.injEq, List.cons.injEq, Value.int.injEq, Value.bool.injEq, true_and, and_true] at h3
  obtain ⟨e1, e2, e3⟩ := h3
  have e1 : a = a' := by omega
  have e2 : b = b' := by omega
  rw [e1, e2, e3]
/-- block b is a map of at most n entries that holds f -/
def TwMap (w : World) (b n : Nat) (f : Twn → Option Value) : Prop :=
  ∃ D : DataW Unit, w.ownsMap Try.prog 56 encS b n D ∧ IsMap D ∧ ∀ t, twLow t → (f t = none ∧ Maps.has D (twK t) = false) ∨ ∃ v d, f t = some v ∧ encS v = some (d, []) ∧ Maps.has D (twK t) = true ∧ ∀ z, D.atKey (twK t) z = d
def updT (f : Twn → Option Value) (t : Twn) (v : Value) : Twn → Option Value := fun u => if u = t then some v else f u
section
variable {w w' : World} {b n : Nat} {f : Twn → Option Value}
theorem TwMap.made (w : World) : TwMap (w.alloc (.map #[] 0)) w.heap.size 0 fun _ => none :=
  ⟨_, World.ownsMap_made w _ _ _, isMap_empty, fun _ _ => .inl ⟨rfl, by simp [Maps.has]⟩⟩
theorem TwMap.lt (h : TwMap w b n f) : b < w.heap.size := by obtain ⟨D, h1, -⟩ := h; exact h1.lt
theorem TwMap.block (h : TwMap w b n f) (hb : w'.heap[b]? = w.heap[b]?) : TwMap w' b n f := by
  obtain ⟨D, ⟨es, clock, h1, h2⟩, h3⟩ := h
  exact ⟨D, ⟨es, clock, hb.trans h1, h2⟩, h3⟩
theorem TwMap.mono (h : TwMap w b n f) {m : Nat} (hm : n ≤ m) : TwMap w b m f := by obtain ⟨D, h1, h2⟩ := h; exact ⟨D, h1.mono hm, h2⟩
theorem TwMap.below (h : TwMap w b n f) (hb : Below w.heap.size w w') : TwMap w' b n f := h.block (hb.block b h.lt)
theorem TwMap.alloc (h : TwMap w b n f) (o : Obj) : TwMap (w.alloc o) b n f := h.block (Below.heap_alloc w o b h.lt)
theorem TwMap.grown (h : TwMap w b n f) {row : Option Nat} (hg : w.grownBy w' row) (hne : some b ≠ row) : TwMap w' b n f := h.block (hg.block b h.lt hne)
theorem TwMap.isMap (h : TwMap w b n f) : ∃ es clock, w.heap[b]? = some (.map es clock) := by obtain ⟨D, ⟨es, clock, h1, -⟩, -⟩ := h; exact ⟨es, clock, h1⟩
theorem TwMap.notRow (h : TwMap w b n f) {lo k m : Nat} {e : TypeId} {v : Value} {cs : List Value} (ho : w.ownsRow lo e k v m cs) : v.ownBlock ≠ some b := by
  obtain ⟨es, clock, h1⟩ := h.isMap
  obtain ⟨-, hs⟩ := ho
  rcases hs with ⟨rfl, -⟩ | ⟨g, cap, cur, rfl, -, hh, -⟩
  · simp [Value.ownBlock]
  · intro e1
    have e1 : some g = some b := e1
    cases e1
    rw [h1] at hh
    cases hh
theorem TwMap.ext (h : TwMap w b n f) {g : Twn → Option Value} (hg : ∀ t, twLow t → g t = f t) : TwMap w b n g := by
  obtain ⟨D, h1, h2, h3⟩ := h
  exact ⟨D, h1, h2, fun t ht => by rw [hg t ht]; exact h3 t ht⟩
theorem TwMap.look (h : TwMap w b n f) {T e : TypeId} (hT : Try.prog.underlying T = some (.map 56 e)) {z : Value} (hz : (zeroValue e).run Try.prog w = .ok z w) {zd : DataW Unit} (hzd : encS z = some (zd, [])) {t : Twn} (ht : twLow t) :
    (Instr.lookup T (.map (some b)) (twV t) false).run Try.prog w = .ok ((f t).getD z) w := by
  obtain ⟨D, h1, h2, h3⟩ := h
  obtain ⟨v, ps, hrun, hv⟩ := h1.lookup keyedTwin hT hz hzd (keyTwin ht)
  rcases h3 t ht with ⟨h4, h5⟩ | ⟨u, d, h4, h5, h6, h7⟩
  · rw [Maps.atKey_of_not_has h5] at hv
    rw [hrun, h4, encS_inj hv hzd]
    rfl
  · rw [h7] at hv
    rw [hrun, h4, encS_inj hv h5]
    rfl
theorem TwMap.look_ok (h : TwMap w b n f) {T e : TypeId} (hT : Try.prog.underlying T = some (.map 56 e)) {z : Value} (hz : (zeroValue e).run Try.prog w = .ok z w) {zd : DataW Unit} (hzd : encS z = some (zd, [])) {t : Twn} (ht : twLow t) :
    (Instr.lookup T (.map (some b)) (twV t) true).run Try.prog w = .ok (.tuple #[(f t).getD z, .bool (f t).isSome]) w := by
  obtain ⟨D, h1, h2, h3⟩ := h
  obtain ⟨v, ps, hrun, hv⟩ := h1.look_ok keyedTwin hT hz hzd (keyTwin ht)
  rcases h3 t ht with ⟨h4, h5⟩ | ⟨u, d, h4, h5, h6, h7⟩
  · rw [Maps.atKey_of_not_has h5] at hv
    rw [hrun, h4, h5, encS_inj hv hzd]
    rfl
  · rw [h7] at hv
    rw [hrun, h4, h6, encS_inj hv h5]
    rfl
theorem TwMap.put (h : TwMap w b n f) {T e : TypeId} (hT : Try.prog.underlying T = some (.map 56 e)) (hn : n < maxLen) {t : Twn} (ht : twLow t) {v : Value} {d : DataW Unit} (hv : encS v = some (d, [])) :
    ∃ w', (Instr.mapUpdate T (.map (some b)) (twV t) v).run Try.prog w = .ok () w' ∧ TwMap w' b (n + 1) (updT f t v) ∧ w.grownBy w' (some b) := by
  obtain ⟨D, h1, h2, h3⟩ := h
  obtain ⟨w', hrun, h4, h5⟩ := h1.update keyedTwin hT hn (keyTwin ht) hv
  refine ⟨w', hrun, ⟨_, h4, h2.put _ _, fun u hu => ?_⟩, h5⟩
  rw [updT]
  by_cases he : u = t
  · subst he
    rw [if_pos rfl]
    exact .inr ⟨v, d, rfl, hv, Maps.has_put_same h2 (show WideAt.IsKeyLit (twK u) from trivial) d, fun z => atKey_put_same h2 (show WideAt.IsKeyLit (twK u) from trivial) d z⟩
  · rw [if_neg he]
    have hne : twK u ≠ twK t := fun e1 => he (twK_inj hu ht e1)
    rw [Maps.has_put_other hne]
    rcases h3 u hu with h6 | ⟨x, y, h6, h7, h8, h9⟩
    · exact .inl h6
    · exact .inr ⟨x, y, h6, h7, h8, fun z => by rw [atKey_put_other hne]; exact h9 z⟩
end
/-- a store, at the operation -/
theorem wpList_put_tw {w : World} {ops : Array Oper} {rest : List Oper} {o : Oper} {a : Act} {Q : Exit → Act → World → Prop}
    (hg : o.guard = none) (m x v : Operand) (T : TypeId) (hop : o.op = Op.mapUpdate T m x v)
    {e : TypeId} (hT : Try.prog.underlying T = some (.map 56 e)) {b n : Nat} {f : Twn → Option Value} (hown : TwMap w b n f) (hn : n < maxLen) {t : Twn} (ht : twLow t) {u : Value} {d : DataW Unit} (hu : encS u = some (d, []))
    (hm : a.eval m = .map (some b)) (hx : a.eval x = twV t) (hv : a.eval v = u)
    (hK : ∀ w', TwMap w' b (n + 1) (updT f t u) → w.grownBy w' (some b) → wpList Try.prog ops Q rest (a.put o.dst undef) w') :
    wpList Try.prog ops Q (o :: rest) a w := by
  refine wpList_plain hg fun K' hK' => ?_
  obtain ⟨w', hrun, r1, r2⟩ := hown.put hT hn ht hu
  unfold Oper.wp
  simp [execOp, hop, hm, hx, hv, hrun, Result.andThen]
  exact hK' _ _ (hK w' r1 r2)
end Go.Proofs.Ythnapjodmndlaaa

/- The pairs that a word reaches, plainly: found one after another, both sides in the same order. -/
namespace Go.Proofs.Ythnapjodmndlaaa
set_option linter.unusedVariables false
set_option linter.unusedSimpArgs false

def addT (l : List Twn) (x : Twn) : List Twn := if l.contains x = true then l else l ++ [x]
def outT (p : Pz) (t : Twn) : List Twn := (List.range 9).flatMap fun k => twnX p k t
/-- the list when the first i of it are done -/
def allT (p : Pz) : Nat → List Twn
  | 0 => [(0, 0, false)]
  | i + 1 => match (allT p i)[i]? with
    | none => allT p i
    | some t => (outT p t).foldl addT (allT p i)
theorem addT_mem {l : List Twn} {x y : Twn} : y ∈ addT l x ↔ y ∈ l ∨ y = x := by
  rw [addT]
  split
  · rename_i h
    rw [List.contains_iff_mem] at h
    constructor
    · exact .inl
    · rintro (h1 | rfl)
      · exact h1
      · exact h
  · rw [List.mem_append, List.mem_singleton]
theorem addT_pre (l : List Twn) (x : Twn) : l <+: addT l x := by
  rw [addT]
  split
  · exact List.prefix_refl _
  · exact List.prefix_append _ _
theorem addT_nodup {l : List Twn} {x : Twn} (h : l.Nodup) : (addT l x).Nodup := by
  rw [addT]
  split
  · exact h
  · rename_i hx
    rw [List.contains_iff_mem] at hx
    rw [List.nodup_append]
    refine ⟨h, by simp, fun b hb c hc e => ?_⟩
    rw [List.mem_singleton] at hc
    exact hx (hc ▸ e ▸ hb)
theorem foldT_mem {y : Twn} : ∀ {xs l : List Twn}, y ∈ xs.foldl addT l ↔ y ∈ l ∨ y ∈ xs
  | [], l => by simp
  | x :: xs, l => by
    rw [List.foldl_cons, foldT_mem, addT_mem, List.mem_cons, or_assoc]
theorem foldT_pre : ∀ (xs l : List Twn), l <+: xs.foldl addT l
  | [], l => List.prefix_refl _
  | x :: xs, l => (addT_pre l x).trans (foldT_pre xs _)
theorem foldT_nodup : ∀ {xs l : List Twn}, l.Nodup → (xs.foldl addT l).Nodup
  | [], _, h => h
  | x :: xs, _, h => foldT_nodup (xs := xs) (addT_nodup h)
theorem allT_pre (p : Pz) (i : Nat) : allT p i <+: allT p (i + 1) := by
  rw [allT]
  split
  · exact List.prefix_refl _
  · exact foldT_pre _ _
theorem allT_pre2 (p : Pz) (i d : Nat) : allT p i <+: allT p (i + d) := by
  induction d with
  | zero => exact List.prefix_refl _
  | succ d ih => exact ih.trans (allT_pre p (i + d))
theorem allT_nodup (p : Pz) : ∀ i, (allT p i).Nodup
  | 0 => by simp [allT]
  | i + 1 => by
    rw [allT]
    split
    · exact allT_nodup p i
    · exact foldT_nodup (allT_nodup p i)
theorem outT_in {p : Pz} (hp : p.lets.length ≤ 20) {t x : Twn} (h : x ∈ outT p t) : (1 ≤ x.1 ∧ x.1 ≤ 20) ∧ (1 ≤ x.2.1 ∧ x.2.1 ≤ 20) := by
  rw [outT, List.mem_flatMap] at h
  obtain ⟨k, -, h⟩ := h
  have := twnX_in h hp
  exact ⟨this.1, this.2.1⟩
theorem allT_in {p : Pz} (hp : p.lets.length ≤ 20) : ∀ (i : Nat) (t : Twn), t ∈ allT p i → t = (0, 0, false) ∨ ((1 ≤ t.1 ∧ t.1 ≤ 20) ∧ (1 ≤ t.2.1 ∧ t.2.1 ≤ 20))
  | 0, t, h => by
    rw [allT, List.mem_singleton] at h
    exact .inl h
  | i + 1, t, h => by
    rw [allT] at h
    split at h
    · exact allT_in hp i t h
    · rw [foldT_mem] at h
      rcases h with h | h
      · exact allT_in hp i t h
      · exact .inr (outT_in hp h)
theorem nodup_subT : ∀ (s l : List Nat), s.Nodup → (∀ x ∈ s, x ∈ l) → s.length ≤ l.length
  | [], _, _, _ => Nat.zero_le _
  | x :: s, l, hn, hm => by
    have hx := hm x List.mem_cons_self
    have h1 := nodup_subT s (l.erase x) (List.nodup_cons.1 hn).2 (fun z hz => by
      refine (List.mem_erase_of_ne (fun e => ?_)).2 (hm z (List.mem_cons_of_mem _ hz))
      subst e
      exact (List.nodup_cons.1 hn).1 hz)
    rw [List.length_erase_of_mem hx] at h1
    have := List.length_pos_of_mem hx
    rw [List.length_cons]
    omega
theorem slotT_lt {t : Twn} (h1 : t.1 ≤ 20) (h2 : t.2.1 ≤ 20) : slotT t < 882 := by
  rw [slotT]
  split <;> omega
theorem allT_low {p : Pz} (hp : p.lets.length ≤ 20) {i : Nat} {t : Twn} (h : t ∈ allT p i) : t.1 ≤ 20 ∧ t.2.1 ≤ 20 := by
  rcases allT_in hp i t h with rfl | h
  · exact ⟨Nat.zero_le _, Nat.zero_le _⟩
  · exact ⟨h.1.2, h.2.2⟩
theorem allT_len {p : Pz} (hp : p.lets.length ≤ 20) (i : Nat) : (allT p i).length ≤ 882 := by
  have hn : ((allT p i).map slotT).Nodup := by
    rw [List.nodup_iff_pairwise_ne, List.pairwise_map]
    have h := allT_nodup p i
    rw [List.nodup_iff_pairwise_ne] at h
    refine List.Pairwise.imp_of_mem ?_ h
    intro t u ht hu hne e
    exact hne (slotT_inj (allT_low hp ht).2 (allT_low hp hu).2 e)
  have := nodup_subT _ (List.range 882) hn (fun x hx => by
    obtain ⟨t, ht, rfl⟩ := List.mem_map.1 hx
    have := allT_low hp ht
    exact List.mem_range.2 (slotT_lt this.1 this.2))
  rwa [List.length_map, List.length_range] at this
/-- all of them -/
def endT (p : Pz) : List Twn := allT p 882
attribute [irreducible] endT
theorem allT_stop {p : Pz} {i : Nat} (h : (allT p i).length ≤ i) : ∀ d, allT p (i + d) = allT p i
  | 0 => rfl
  | d + 1 => by
    have ih := allT_stop h d
    rw [← Nat.add_assoc, allT, ih, List.getElem?_eq_none (by omega)]
theorem endT_eq {p : Pz} {i : Nat} (h : (allT p i).length ≤ i) (hi : i ≤ 882) : endT p = allT p i := by
  have := allT_stop h (882 - i)
  rw [show i + (882 - i) = 882 by omega] at this
  rw [endT]
  exact this
theorem endT_at {p : Pz} {i k : Nat} {t : Twn} (h : (allT p i)[k]? = some t) (hi : i ≤ 882) : (endT p)[k]? = some t := by
  have := allT_pre2 p i (882 - i)
  rw [show i + (882 - i) = 882 by omega] at this
  obtain ⟨r, hr⟩ := this
  rw [endT, ← hr]
  exact List.getElem?_append_left (List.getElem?_eq_some_iff.1 h).1 ▸ h
theorem endT_closed {p : Pz} (hp : p.lets.length ≤ 20) {t x : Twn} (h : t ∈ endT p) (hx : x ∈ outT p t) : x ∈ endT p := by
  obtain ⟨k, hk, hkt⟩ := List.getElem_of_mem h
  have hkl : k < 882 := by have := allT_len hp 882; rw [endT] at hk; omega
  have h1 : (endT p)[k]? = some t := by rw [← hkt]; exact List.getElem?_eq_getElem hk
  have hpre := allT_pre2 p (k + 1) (882 - (k + 1))
  rw [show k + 1 + (882 - (k + 1)) = 882 by omega] at hpre
  cases ha : (allT p k)[k]? with
  | none =>
    have hs := allT_stop (p := p) (i := k) (List.getElem?_eq_none_iff.1 ha) (882 - k)
    rw [show k + (882 - k) = 882 by omega] at hs
    rw [endT, hs, ha] at h1
    cases h1
  | some u =>
    have h2 := endT_at ha (by omega)
    rw [h1] at h2
    have h2 := Option.some.inj h2
    subst h2
    have h3 : x ∈ allT p (k + 1) := by
      rw [allT, ha]
      exact foldT_mem.2 (.inr hx)
    rw [endT]
    exact hpre.subset h3
theorem endT_start (p : Pz) : (endT p)[0]? = some (0, 0, false) := endT_at (i := 0) rfl (by omega)
end Go.Proofs.Ythnapjodmndlaaa

/- The edges between the pairs by their numbers, the distances, and the word, plainly. -/
namespace Go.Proofs.Ythnapjodmndlaaa
set_option linter.unusedVariables false
set_option linter.unusedSimpArgs false

theorem wordT_map {τ σ : Type} {M : Nat} {nx : Nat → τ → List τ} {D : τ → Int} {nx' : Nat → σ → List σ} {D' : σ → Int} {f : τ → σ} {ok : τ → Prop}
    (hx : ∀ k t, ok t → nx' k (f t) = (nx k t).map f) (hD : ∀ t, ok t → D' (f t) = D t) (hok : ∀ k t, ok t → ∀ x ∈ nx k t, ok x) : ∀ (n : Nat) (S : List τ), (∀ t ∈ S, ok t) → wordT M nx' D' n (S.map f) = wordT M nx D n S
  | 0, _, _ => rfl
  | n + 1, S, hS => by
    have h1 : ∀ k, leadsT nx' D' (S.map f) n k = leadsT nx D S n k := fun k => by
      rw [Bool.eq_iff_iff, leadsT_iff, leadsT_iff]
      constructor
      · rintro ⟨u, hu, x, hxx, hd⟩
        obtain ⟨t, ht, rfl⟩ := List.mem_map.1 hu
        rw [hx k t (hS t ht)] at hxx
        obtain ⟨z, hz, rfl⟩ := List.mem_map.1 hxx
        exact ⟨t, ht, z, hz, by rw [← hD z (hok k t (hS t ht) z hz)]; exact hd⟩
      · rintro ⟨t, ht, x, hxx, hd⟩
        exact ⟨f t, List.mem_map.2 ⟨t, ht, rfl⟩, f x, by rw [hx k t (hS t ht)]; exact List.mem_map.2 ⟨x, hxx, rfl⟩, by rw [hD x (hok k t (hS t ht) x hxx)]; exact hd⟩
    have h2 : letT M nx' D' (S.map f) n = letT M nx D S n := by
      rw [letT, letT, show leadsT nx' D' (S.map f) n = leadsT nx D S n from funext h1]
    rw [wordT, wordT, h2]
    cases letT M nx D S n with
    | none => rfl
    | some k =>
      simp only
      rw [← wordT_map hx hD hok n (nowT nx D S n k) (fun x hxx => by
        obtain ⟨⟨t, ht, h3⟩, -⟩ := mem_nowT.1 hxx
        exact hok k t (hS t ht) x h3)]
      rw [wordT_congr (S := nowT nx' D' (S.map f) n k) (S' := (nowT nx D S n k).map f)]
      intro u
      rw [mem_nowT, List.mem_map]
      constructor
      · rintro ⟨⟨v, hv, h3⟩, h4⟩
        obtain ⟨t, ht, rfl⟩ := List.mem_map.1 hv
        rw [hx k t (hS t ht)] at h3
        obtain ⟨z, hz, rfl⟩ := List.mem_map.1 h3
        exact ⟨z, mem_nowT.2 ⟨⟨t, ht, hz⟩, by rw [← hD z (hok k t (hS t ht) z hz)]; exact h4⟩, rfl⟩
      · rintro ⟨z, hz, rfl⟩
        obtain ⟨⟨t, ht, h3⟩, h4⟩ := mem_nowT.1 hz
        exact ⟨⟨f t, List.mem_map.2 ⟨t, ht, rfl⟩, by rw [hx k t (hS t ht)]; exact List.mem_map.2 ⟨z, h3, rfl⟩⟩, by rw [hD z (hok k t (hS t ht) z h3)]; exact h4⟩
/-- pair number i -/
def twnA (p : Pz) (i : Nat) : Twn := (endT p).getD i (0, 0, false)
def idxT (p : Pz) (t : Twn) : Nat := (endT p).findIdx fun u => u == t
/-- the edges that leave pair i by letter k; all edges -/
def edT (p : Pz) (i k : Nat) : List (Nat × Nat × Nat) := (twnX p k (twnA p i)).map fun x => (i, k, idxT p x)
def edI (p : Pz) (i : Nat) : List (Nat × Nat × Nat) := (List.range 9).flatMap fun k => edT p i k
def edsT (p : Pz) : List (Nat × Nat × Nat) := (List.range (endT p).length).flatMap fun i => edI p i
def prsT (p : Pz) : List (Nat × Nat) := (edsT p).map fun e => (e.1, e.2.2)
def goalT (p : Pz) (i : Nat) : Prop := twnG p (twnA p i) = true
theorem mem_edsT {p : Pz} {e : Nat × Nat × Nat} : e ∈ edsT p ↔ e.1 < (endT p).length ∧ e.2.1 < 9 ∧ ∃ x ∈ twnX p e.2.1 (twnA p e.1), e.2.2 = idxT p x := by
  simp only [edsT, edI, edT, List.mem_flatMap, List.mem_range, List.mem_map]
  constructor
  · rintro ⟨i, hi, k, hk, x, hx, rfl⟩; exact ⟨hi, hk, x, hx, rfl⟩
  · rintro ⟨hi, hk, x, hx, h⟩
    exact ⟨e.1, hi, e.2.1, hk, x, hx, by rw [← h]⟩
theorem idxT_lt {p : Pz} {t : Twn} (h : t ∈ endT p) : idxT p t < (endT p).length := by
  rw [idxT]
  exact List.findIdx_lt_length_of_exists ⟨t, h, by simp⟩
theorem twnA_idx {p : Pz} {t : Twn} (h : t ∈ endT p) : twnA p (idxT p t) = t := by
  have hl := idxT_lt h
  have h1 : ((endT p)[idxT p t] == t) = true := List.findIdx_getElem (w := hl)
  rw [twnA, List.getD_eq_getElem?_getD, List.getElem?_eq_getElem hl, Option.getD_some]
  exact beq_iff_eq.1 h1
theorem twnA_mem {p : Pz} {i : Nat} (h : i < (endT p).length) : twnA p i ∈ endT p := by
  rw [twnA, List.getD_eq_getElem?_getD, List.getElem?_eq_getElem h, Option.getD_some]
  exact List.getElem_mem h
theorem endT_nodup (p : Pz) : (endT p).Nodup := by rw [endT]; exact allT_nodup p 882
theorem idx_twnA {p : Pz} {i : Nat} (h : i < (endT p).length) : idxT p (twnA p i) = i := by
  have hm := twnA_mem h
  have h1 := twnA_idx hm
  have hl := idxT_lt hm
  have hn := endT_nodup p
  rw [twnA, List.getD_eq_getElem?_getD, List.getElem?_eq_getElem hl, Option.getD_some] at h1
  have h2 : twnA p i = (endT p)[i] := by rw [twnA, List.getD_eq_getElem?_getD, List.getElem?_eq_getElem h, Option.getD_some]
  exact (List.getElem_inj hn).1 (h1.trans h2)
theorem twn_next {p : Pz} (hp : p.lets.length ≤ 20) {i k : Nat} (hi : i < (endT p).length) (hk : k < 9) {x : Twn} (hx : x ∈ twnX p k (twnA p i)) : x ∈ endT p :=
  endT_closed hp (twnA_mem hi) (List.mem_flatMap.2 ⟨k, List.mem_range.2 hk, hx⟩)
theorem prsT_lt {p : Pz} (hp : p.lets.length ≤ 20) : ∀ e ∈ prsT p, e.1 < (endT p).length ∧ e.2 < (endT p).length := by
  intro e he
  obtain ⟨d, hd, rfl⟩ := List.mem_map.1 he
  obtain ⟨h1, h2, x, hx, h3⟩ := mem_edsT.1 hd
  refine ⟨h1, ?_⟩
  simp only
  rw [h3]
  exact idxT_lt (twn_next hp h1 h2 hx)
end Go.Proofs.Ythnapjodmndlaaa

/- The distances of the pairs and the ambiguous word, plainly. -/
namespace Go.Proofs.Ythnapjodmndlaaa
set_option linter.unusedVariables false
set_option linter.unusedSimpArgs false

theorem dist_ex (next : Nat → List Nat) (goal : Nat → Prop) (i : Nat) : ∃ d, IsDist next goal i d := by
  by_cases h : ∃ n, toG next goal n i
  · obtain ⟨n, hn⟩ := h
    induction n using Nat.strongRecOn with
    | _ n ih =>
      by_cases h2 : ∃ m, m < n ∧ toG next goal m i
      · obtain ⟨m, hm, hg⟩ := h2
        exact ih m hm hg
      · exact ⟨(n : Int), .inr ⟨by omega, by simpa using hn, fun m hm hg => h2 ⟨m, by simpa using hm, hg⟩⟩⟩
  · exact ⟨-1, .inl ⟨rfl, fun n hn => h ⟨n, hn⟩⟩⟩
/-- the number of letters from pair i to one that shows two runs, or -1 -/
noncomputable def dT (p : Pz) (i : Nat) : Int := Classical.choose (dist_ex (nextE (prsT p)) (goalT p) i)
theorem dT_is (p : Pz) (i : Nat) : IsDist (nextE (prsT p)) (goalT p) i (dT p i) := Classical.choose_spec (dist_ex (nextE (prsT p)) (goalT p) i)
theorem dT_eq {p : Pz} {i : Nat} {d : Int} (h : IsDist (nextE (prsT p)) (goalT p) i d) : d = dT p i := h.uniq (dT_is p i)
theorem dist_step {next : Nat → List Nat} {goal : Nat → Prop} {i n : Nat} {D : Nat → Int} (hD : ∀ j, IsDist next goal j (D j)) (h : D i = ((n + 1 : Nat) : Int)) : ∃ j ∈ next i, D j = (n : Int) := by
  rcases hD i with ⟨h1, -⟩ | ⟨h0, h1, h2⟩
  · omega
  · rw [h, Int.toNat_natCast] at h1 h2
    obtain ⟨j, hj, hg⟩ := h1
    refine ⟨j, hj, ?_⟩
    rcases hD j with ⟨-, h4⟩ | ⟨h3, h4, h5⟩
    · exact absurd hg (h4 n)
    · have h6 : ¬ n < (D j).toNat := fun hlt => h5 n hlt hg
      have h7 : ¬ (D j).toNat < n := fun hlt => h2 ((D j).toNat + 1) (by omega) ⟨j, hj, h4⟩
      omega
/-- the numbers before the first pass -/
theorem FarI.init {es : List (Nat × Nat)} {goal : Nat → Prop} {N : Nat} {F : List Int} (hl : F.length = N) (h : ∀ i, i < N → (goal i → F.getD i 0 = 0) ∧ (¬ goal i → F.getD i 0 = -1)) : FarI es goal N F := by
  have hv : ∀ i, i < N → F.getD i 0 = 0 ∨ F.getD i 0 = -1 := fun i hi => by
    by_cases hg : goal i
    · exact .inl ((h i hi).1 hg)
    · exact .inr ((h i hi).2 hg)
  refine ⟨hl, fun i hi => ?_, fun i hi h0 => ?_, fun i hi hg => (h i hi).1 hg, fun i hi => ?_⟩
  · rcases hv i hi with e | e <;> omega
  · by_cases hg : goal i
    · rw [(h i hi).1 hg]
      exact hg
    · have := (h i hi).2 hg
      omega
  · rcases hv i hi with e | e
    · have hil : i < F.length := by omega
      have hm : (0 : Int) ∈ F.filter fun x => decide (0 ≤ x) := by
        rw [List.mem_filter]
        refine ⟨?_, by simp⟩
        rw [List.getD_eq_getElem?_getD, List.getElem?_eq_getElem hil, Option.getD_some] at e
        exact e ▸ List.getElem_mem hil
      have := List.length_pos_of_mem hm
      rw [e, nonneg]
      omega
    · rw [e]; omega
/-- the word, over the numbers of the pairs and over the pairs -/
def nxI (p : Pz) (k i : Nat) : List Nat := (twnX p k (twnA p i)).map (idxT p)
noncomputable def ambW (p : Pz) : List Nat := wordT 9 (nxI p) (dT p) (dT p 0).toNat [0]
noncomputable def ambT (p : Pz) : List Nat × Bool := if pzOk p = true then (if dT p 0 < 0 then ([], false) else (ambW p, true)) else ([], false)
theorem mem_next_prs {p : Pz} {i j : Nat} (hi : i < (endT p).length) : j ∈ nextE (prsT p) i ↔ ∃ k, k < 9 ∧ j ∈ nxI p k i := by
  rw [mem_nextE, prsT, List.mem_map]
  constructor
  · rintro ⟨⟨a, k, b⟩, he, h⟩
    simp only [Prod.mk.injEq] at h
    obtain ⟨rfl, rfl⟩ := h
    obtain ⟨-, h2, x, hx, h3⟩ := mem_edsT.1 he
    exact ⟨k, h2, List.mem_map.2 ⟨x, hx, h3.symm⟩⟩
  · rintro ⟨k, hk, h⟩
    obtain ⟨x, hx, rfl⟩ := List.mem_map.1 h
    exact ⟨(i, k, idxT p x), mem_edsT.2 ⟨hi, hk, x, hx, rfl⟩, rfl⟩
theorem nxI_lt {p : Pz} (hp : p.lets.length ≤ 20) {i j k : Nat} (hi : i < (endT p).length) (hk : k < 9) (h : j ∈ nxI p k i) : j < (endT p).length := by
  obtain ⟨x, hx, rfl⟩ := List.mem_map.1 h
  exact idxT_lt (twn_next hp hi hk hx)
/-- from a pair of number n + 1 a letter leads on -/
theorem amb_step {p : Pz} {i n : Nat} (hi : i < (endT p).length) (h : dT p i = ((n + 1 : Nat) : Int)) : ∃ k, k < 9 ∧ ∃ j ∈ nxI p k i, dT p j = (n : Int) := by
  obtain ⟨j, hj, hd⟩ := dist_step (dT_is p) h
  obtain ⟨k, hk, hjk⟩ := (mem_next_prs hi).1 hj
  exact ⟨k, hk, j, hjk, hd⟩
end Go.Proofs.Ythnapjodmndlaaa

/- The pairs and the edges while they are found, plainly (the reference's l10Pairs). -/
namespace Go.Proofs.Ythnapjodmndlaaa
set_option linter.unusedVariables false
set_option linter.unusedSimpArgs false

def outB (p : Pz) (t : Twn) (n : Nat) : List Twn := (List.range n).flatMap fun k => twnX p k t
def listT (p : Pz) (k n : Nat) (cur : List Twn) : List Twn := cur.foldl addT ((outB p (twnA p k) n).foldl addT (allT p k))
def edgT (p : Pz) (k n : Nat) (cur : List Twn) : List (Nat × Nat × Nat) := ((List.range k).flatMap (edI p) ++ (List.range n).flatMap (edT p k)) ++ cur.map fun x => (k, n, idxT p x)
theorem outB_succ (p : Pz) (t : Twn) (n : Nat) : outB p t (n + 1) = outB p t n ++ twnX p n t := by
  rw [outB, List.range_succ, List.flatMap_append]
  simp [outB]
theorem listT_zero (p : Pz) (k : Nat) : listT p k 0 [] = allT p k := rfl
theorem edgT_zero (p : Pz) : edgT p 0 0 [] = [] := rfl
theorem listT_next (p : Pz) (k n : Nat) : listT p k n (twnX p n (twnA p k)) = listT p k (n + 1) [] := by
  rw [listT, listT, outB_succ, List.foldl_append]
  rfl
theorem edgT_next (p : Pz) (k n : Nat) : edgT p k n (twnX p n (twnA p k)) = edgT p k (n + 1) [] := by
  rw [edgT, edgT, List.range_succ, List.flatMap_append]
  simp [edT]
theorem edgT_nine (p : Pz) (k : Nat) : edgT p k 9 [] = edgT p (k + 1) 0 [] := by
  rw [edgT, edgT, List.range_succ (n := k), List.flatMap_append]
  simp [edI]
theorem endT_all {p : Pz} {k : Nat} (hk : k < (allT p k).length) (h9 : k ≤ 882) : (allT p k)[k]? = some (twnA p k) := by
  have h1 := List.getElem?_eq_getElem hk
  have h2 := endT_at h1 h9
  rw [h1, twnA, List.getD_eq_getElem?_getD, h2]
  rfl
theorem listT_nine {p : Pz} {k : Nat} (hk : k < (allT p k).length) (h9 : k ≤ 882) : listT p k 9 [] = allT p (k + 1) := by
  rw [allT, endT_all hk h9]
  rfl
theorem allT_endT (p : Pz) {i : Nat} (h : i ≤ 882) : allT p i <+: endT p := by
  have := allT_pre2 p i (882 - i)
  rw [show i + (882 - i) = 882 by omega] at this
  rw [endT]
  exact this
theorem listT_pre {p : Pz} {k n : Nat} {cur rest : List Twn} (hk : k < (allT p k).length) (h9 : k < 882) (hn : n < 9) (hc : cur ++ rest = twnX p n (twnA p k)) : listT p k n cur <+: endT p := by
  have h1 : listT p k n cur <+: listT p k (n + 1) [] := by
    rw [← listT_next, ← hc, listT, listT, List.foldl_append]
    exact foldT_pre _ _
  have h2 : ∀ d, listT p k (n + 1) [] <+: listT p k (n + 1 + d) [] := by
    intro d
    induction d with
    | zero => exact List.prefix_refl _
    | succ d ih =>
      refine ih.trans ?_
      rw [← Nat.add_assoc, ← listT_next]
      exact foldT_pre _ _
  have h3 := h2 (9 - (n + 1))
  rw [show n + 1 + (9 - (n + 1)) = 9 by omega, listT_nine hk (by omega)] at h3
  exact (h1.trans h3).trans (allT_endT p (by omega))
theorem listT_mem {p : Pz} {k n : Nat} {cur : List Twn} {x : Twn} : x ∈ listT p k n cur ↔ (x ∈ allT p k ∨ x ∈ outB p (twnA p k) n) ∨ x ∈ cur := by rw [listT, foldT_mem, foldT_mem]
theorem listT_start {p : Pz} {k n : Nat} {cur : List Twn} : (listT p k n cur)[0]? = some (0, 0, false) := by
  have h0 : allT p 0 <+: allT p k := by have := allT_pre2 p 0 k; rwa [Nat.zero_add] at this
  have h1 := (h0.trans (foldT_pre (outB p (twnA p k) n) _)).trans (foldT_pre cur _)
  obtain ⟨r, hr⟩ := h1
  rw [listT, ← hr]
  rfl
theorem listT_low {p : Pz} {k : Nat} (hk : k < (allT p k).length) (h9 : k ≤ 882) {n : Nat} {cur : List Twn} : (listT p k n cur)[k]? = some (twnA p k) := by
  have h1 := (foldT_pre (outB p (twnA p k) n) (allT p k)).trans (foldT_pre cur _)
  obtain ⟨r, hr⟩ := h1
  rw [listT, ← hr, List.getElem?_append_left hk]
  exact endT_all hk h9
theorem idx_at {p : Pz} {q : Nat} {z : Twn} (h : (endT p)[q]? = some z) : idxT p z = q := by
  have hq := (List.getElem?_eq_some_iff.1 h).1
  have := idx_twnA hq
  rwa [twnA, List.getD_eq_getElem?_getD, h, Option.getD_some] at this
theorem pre_at {α : Type} {l r : List α} (h : l <+: r) {q : Nat} {z : α} (hz : l[q]? = some z) : r[q]? = some z := by
  obtain ⟨s, rfl⟩ := h
  rw [List.getElem?_append_left (List.getElem?_eq_some_iff.1 hz).1]
  exact hz
/-- the table of places -/
structure TabOk (L : List Twn) (T : List Int) : Prop where
  len : T.length = 882
  some_ : ∀ (q : Nat) (t : Twn), L[q]? = some t → T.getD (slotT t) 0 = (q : Int)
  none_ : ∀ s : Nat, (∀ t ∈ L, slotT t ≠ s) → T.getD s 0 = 0
theorem TabOk.start : TabOk [(0, 0, false)] (List.replicate 882 (0 : Int)) := by
  have h : ∀ s, (List.replicate 882 (0 : Int)).getD s 0 = 0 := fun s => by
    rw [List.getD_eq_getElem?_getD, List.getElem?_replicate]
    split <;> rfl
  refine ⟨List.length_replicate, fun q t hq => ?_, fun s _ => h s⟩
  cases q with
  | zero => exact h _
  | succ q => simp at hq
theorem TabOk.hit {p : Pz} {L : List Twn} {T : List Int} {z : Twn} (h : TabOk L T) (hp : L <+: endT p) (hz : z ∈ L) : T.getD (slotT z) 0 = (idxT p z : Int) := by
  obtain ⟨q, hq, hqz⟩ := List.getElem_of_mem hz
  have h1 : L[q]? = some z := by rw [← hqz]; exact List.getElem?_eq_getElem hq
  rw [h.some_ q z h1, idx_at (pre_at hp h1)]
theorem TabOk.miss {L : List Twn} {T : List Int} {z : Twn} (h : TabOk L T) (hz : z ∉ L) (hb : z.2.1 ≤ 20) (hl : ∀ t ∈ L, t.2.1 ≤ 20) : T.getD (slotT z) 0 = 0 :=
  h.none_ _ fun t ht e => hz (slotT_inj (hl t ht) hb e ▸ ht)
theorem TabOk.add {L : List Twn} {T : List Int} {z : Twn} (h : TabOk L T) (hz : z ∉ L) (ha : z.1 ≤ 20) (hb : z.2.1 ≤ 20) (hl : ∀ t ∈ L, t.2.1 ≤ 20) : TabOk (L ++ [z]) (T.set (slotT z) (L.length : Int)) := by
  have hs : slotT z < T.length := by rw [h.len]; exact slotT_lt ha hb
  refine ⟨by rw [List.length_set]; exact h.len, fun q t hq => ?_, fun s hs0 => ?_⟩
  · rw [getD_set hs]
    rcases Nat.lt_or_ge q L.length with hlt | hge
    · rw [List.getElem?_append_left hlt] at hq
      have ht : t ∈ L := List.mem_of_getElem? hq
      have hne : ¬ slotT z = slotT t := fun e => hz (slotT_inj (hl t ht) hb e.symm ▸ ht)
      rw [if_neg hne]
      exact h.some_ q t hq
    · rw [List.getElem?_append_right hge] at hq
      have hq0 : q - L.length = 0 := by
        have := (List.getElem?_eq_some_iff.1 hq).1
        simp at this
        omega
      rw [hq0] at hq
      have : z = t := by simpa using hq
      subst this
      rw [if_pos rfl]
      omega
  · rw [getD_set hs, if_neg (fun e => hs0 z (by simp) e)]
    exact h.none_ s fun t ht => hs0 t (by simp [ht])
theorem addT_has {L : List Twn} {z : Twn} (h : z ∈ L) : addT L z = L := by rw [addT, if_pos (List.contains_iff_mem.2 h)]
theorem addT_new {L : List Twn} {z : Twn} (h : z ∉ L) : addT L z = L ++ [z] := by rw [addT, if_neg (fun e => h (List.contains_iff_mem.1 e))]
theorem idx_pos {p : Pz} {z : Twn} (h : z ∈ endT p) (hz : 1 ≤ z.1) : 1 ≤ idxT p z := by
  rcases Nat.eq_zero_or_pos (idxT p z) with e | e
  · have h1 := twnA_idx h
    rw [e, twnA, List.getD_eq_getElem?_getD, endT_start, Option.getD_some] at h1
    rw [← h1] at hz
    simp at hz
  · exact e
theorem listT_snoc (p : Pz) (k n : Nat) (cur : List Twn) (z : Twn) : listT p k n (cur ++ [z]) = addT (listT p k n cur) z := by
  rw [listT, List.foldl_append]
  rfl
theorem edgT_snoc (p : Pz) (k n : Nat) (cur : List Twn) (z : Twn) : edgT p k n (cur ++ [z]) = edgT p k n cur ++ [(k, n, idxT p z)] := by
  rw [edgT, List.map_append, ← List.append_assoc]
  rfl
end Go.Proofs.Ythnapjodmndlaaa

/- Who comes before a pair; the distances found from the ends (the program's twinDistances, plainly). -/
namespace Go.Proofs.Ythnapjodmndlaaa
set_option linter.unusedVariables false
set_option linter.unusedSimpArgs false

def putB (B : Twn → List Twn) (t u : Twn) : Twn → List Twn := fun x => if x = t then B x ++ [u] else B x
def BefOk (p : Pz) (i n : Nat) (cur : List Twn) (B : Twn → List Twn) : Prop := ∀ t u, u ∈ B t ↔ (∃ j, j < i ∧ u = twnA p j ∧ ∃ k, k < 9 ∧ t ∈ twnX p k u) ∨ (u = twnA p i ∧ ((∃ k, k < n ∧ t ∈ twnX p k u) ∨ t ∈ cur))
theorem BefOk.start (p : Pz) : BefOk p 0 0 [] fun _ => [] := fun t u => by simp
theorem BefOk.put {p : Pz} {i n : Nat} {cur : List Twn} {B : Twn → List Twn} (h : BefOk p i n cur B) (x : Twn) : BefOk p i n (cur ++ [x]) (putB B x (twnA p i)) := by
  intro t u
  rw [putB]
  by_cases ht : t = x
  · subst ht
    rw [if_pos rfl, List.mem_append, h t u, List.mem_singleton, List.mem_append, List.mem_singleton]
    constructor
    · rintro ((h1 | ⟨h1, h2 | h2⟩) | h1)
      · exact .inl h1
      · exact .inr ⟨h1, .inl h2⟩
      · exact .inr ⟨h1, .inr (.inl h2)⟩
      · exact .inr ⟨h1, .inr (.inr rfl)⟩
    · rintro (h1 | ⟨h1, h2 | h2 | h2⟩)
      · exact .inl (.inl h1)
      · exact .inl (.inr ⟨h1, .inl h2⟩)
      · exact .inl (.inr ⟨h1, .inr h2⟩)
      · exact .inr h1
  · rw [if_neg ht, h t u, List.mem_append, List.mem_singleton]
    simp [ht]
theorem BefOk.letter {p : Pz} {i n : Nat} {B : Twn → List Twn} (h : BefOk p i n (twnX p n (twnA p i)) B) : BefOk p i (n + 1) [] B := by
  intro t u
  rw [h t u]
  constructor
  · rintro (h1 | ⟨h1, ⟨k, hk, h2⟩ | h2⟩)
    · exact .inl h1
    · exact .inr ⟨h1, .inl ⟨k, by omega, h2⟩⟩
    · exact .inr ⟨h1, .inl ⟨n, by omega, by rw [h1]; exact h2⟩⟩
  · rintro (h1 | ⟨h1, ⟨k, hk, h2⟩ | h2⟩)
    · exact .inl h1
    · by_cases hkn : k = n
      · subst hkn
        exact .inr ⟨h1, .inr (by rw [← h1]; exact h2)⟩
      · exact .inr ⟨h1, .inl ⟨k, by omega, h2⟩⟩
    · simp at h2
theorem BefOk.pair {p : Pz} {i : Nat} {B : Twn → List Twn} (h : BefOk p i 9 [] B) : BefOk p (i + 1) 0 [] B := by
  intro t u
  rw [h t u]
  constructor
  · rintro (⟨j, hj, h1⟩ | ⟨h1, ⟨k, hk, h2⟩ | h2⟩)
    · exact .inl ⟨j, by omega, h1⟩
    · exact .inl ⟨i, by omega, h1, k, hk, h2⟩
    · simp at h2
  · rintro (⟨j, hj, h1, h2⟩ | ⟨h1, ⟨k, hk, h2⟩ | h2⟩)
    · by_cases hji : j = i
      · subst hji
        exact .inr ⟨h1, .inl h2⟩
      · exact .inl ⟨j, by omega, h1, h2⟩
    · omega
    · simp at h2
theorem BefOk.fin {p : Pz} {B : Twn → List Twn} (h : BefOk p (endT p).length 0 [] B) {t u : Twn} : u ∈ B t ↔ ∃ j, j < (endT p).length ∧ u = twnA p j ∧ ∃ k, k < 9 ∧ t ∈ twnX p k u := by
  rw [h t u]
  constructor
  · rintro (h1 | ⟨-, ⟨k, hk, -⟩ | h2⟩)
    · exact h1
    · omega
    · simp at h2
  · exact .inl
/-- who comes before pair number k -/
def prvB (p : Pz) (B : Twn → List Twn) (k : Nat) : List Nat := (B (twnA p k)).map (idxT p)
section
variable {p : Pz} {B : Twn → List Twn}
theorem bef_in (h : BefOk p (endT p).length 0 [] B) {t u : Twn} (hu : u ∈ B t) : u ∈ endT p := by
  obtain ⟨j, hj, rfl, -⟩ := h.fin.1 hu
  exact twnA_mem hj
theorem prv_next (h : BefOk p (endT p).length 0 [] B) : ∀ i k, i < (endT p).length → k < (endT p).length → i ∈ prvB p B k → k ∈ nextE (prsT p) i := by
  intro i k hi hk hik
  obtain ⟨u, hu, rfl⟩ := List.mem_map.1 hik
  obtain ⟨j, hj, rfl, l, hl, hx⟩ := h.fin.1 hu
  rw [idx_twnA hj]
  exact (mem_next_prs hj).2 ⟨l, hl, List.mem_map.2 ⟨_, hx, idx_twnA hk⟩⟩
theorem prv_lt (h : BefOk p (endT p).length 0 [] B) : ∀ i k, k < (endT p).length → i ∈ prvB p B k → i < (endT p).length := by
  intro i k _ hik
  obtain ⟨u, hu, rfl⟩ := List.mem_map.1 hik
  exact idxT_lt (bef_in h hu)
theorem next_lt (hp : p.lets.length ≤ 20) : ∀ i k, i < (endT p).length → k ∈ nextE (prsT p) i → k < (endT p).length := by
  intro i k _ hk
  exact (prsT_lt hp _ (mem_nextE.1 hk)).2
theorem next_prv (h : BefOk p (endT p).length 0 [] B) (hp : p.lets.length ≤ 20) : ∀ i k, i < (endT p).length → k < (endT p).length → k ∈ nextE (prsT p) i → i ∈ prvB p B k := by
  intro i k hi hk hik
  obtain ⟨l, hl, hxm⟩ := (mem_next_prs hi).1 hik
  obtain ⟨x, hx, rfl⟩ := List.mem_map.1 hxm
  have hxe := twn_next hp hi hl hx
  refine List.mem_map.2 ⟨twnA p i, ?_, idx_twnA hi⟩
  rw [twnA_idx hxe]
  exact h.fin.2 ⟨i, hi, rfl, l, hl, hx⟩
end
/-- the numbers when the ends are laid in -/
theorem BO.begin {prev next : Nat → List Nat} {goal : Nat → Prop} {N : Nat} {D : List Int} {q : List Nat} (hl : D.length = N) (hD : ∀ i, i < N → (goal i ∧ D.getD i 0 = 0) ∨ (¬ goal i ∧ D.getD i 0 = -1)) (hq : ∀ x, x ∈ q ↔ x < N ∧ goal x) : BO prev next goal N D q := by
  have h0 : ∀ i, i < N → 0 ≤ D.getD i 0 → goal i ∧ D.getD i 0 = 0 := fun i hi h => by
    rcases hD i hi with h1 | ⟨_, h1⟩
    · exact h1
    · omega
  have hqz : ∀ x ∈ q, D.getD x 0 = 0 := fun x hx => by
    obtain ⟨h1, h2⟩ := (hq x).1 hx
    rcases hD x h1 with ⟨_, h3⟩ | ⟨h3, _⟩
    · exact h3
    · exact absurd h2 h3
  refine ⟨hl, fun i hi h => ?_, fun i hi hg => ?_, fun k hk h hkq => ?_, fun h r hr i hi => ?_, ?_, fun x hx => ?_, fun i hi => ?_⟩
  · rw [(h0 i hi h).2]
    exact (h0 i hi h).1
  · rcases hD i hi with ⟨_, h3⟩ | ⟨h3, _⟩
    · exact h3
    · exact absurd hg h3
  · exact absurd ((hq k).2 ⟨hk, (h0 k hk h).1⟩) hkq
  · have h1 := hqz h (by rw [hr]; simp)
    rcases hD i hi with ⟨_, h3⟩ | ⟨_, h3⟩ <;> omega
  · exact List.pairwise_of_forall_mem_list fun a ha b hb => by rw [hqz a ha, hqz b hb]; exact Int.le_refl _
  · exact ⟨((hq x).1 hx).1, by rw [hqz x hx]; exact Int.le_refl _⟩
  · rcases hD i hi with ⟨_, h3⟩ | ⟨_, h3⟩ <;> omega
theorem negs_le (D : List Int) : negs D ≤ D.length := List.countP_le_length
/-- the value at a pair -/
def dV (p : Pz) (D : List Int) (t : Twn) : Option Int := if (endT p).contains t = true ∧ 0 ≤ D.getD (idxT p t) 0 then some (D.getD (idxT p t) 0) else none
theorem dV_some {p : Pz} {D : List Int} {t : Twn} (ht : t ∈ endT p) (h : 0 ≤ D.getD (idxT p t) 0) : dV p D t = some (D.getD (idxT p t) 0) := by rw [dV, if_pos ⟨List.contains_iff_mem.2 ht, h⟩]
theorem dV_none {p : Pz} {D : List Int} {t : Twn} (h : D.getD (idxT p t) 0 < 0) : dV p D t = none := by rw [dV, if_neg (fun h2 => by omega)]
theorem dV_set {p : Pz} {D : List Int} {t : Twn} (ht : t ∈ endT p) (hl : D.length = (endT p).length) {d : Int} (hd : 0 ≤ d) (u : Twn) : dV p (D.set (idxT p t) d) u = if u = t then some d else dV p D u := by
  have hlt : idxT p t < D.length := by rw [hl]; exact idxT_lt ht
  by_cases hu : u = t
  · subst hu
    rw [if_pos rfl, dV_some ht (by rw [getD_set hlt, if_pos rfl]; exact hd), getD_set hlt, if_pos rfl]
  · rw [if_neg hu, dV, dV]
    by_cases hc : u ∈ endT p
    · have hne : ¬ idxT p t = idxT p u := fun e => hu (by rw [← twnA_idx hc, ← e, twnA_idx ht])
      rw [getD_set hlt, if_neg hne]
    · rw [if_neg (fun h => hc (List.contains_iff_mem.1 h.1)), if_neg (fun h => hc (List.contains_iff_mem.1 h.1))]
end Go.Proofs.Ythnapjodmndlaaa

