/- Graphs in the laws' helpers: measured, copied, compared, marked. -/
import Derived.Test.YtmlfkledhnlkeaaHelpInt
import Derived.Test.YtmlfkledhnlkeaaHelpEdge
namespace Go.Proofs.Ytmlfkledhnlkeaa
set_option linter.unusedVariables false
set_option linter.unusedSimpArgs false
open Go.ChangeShapes Go.WideShapes Go.ChangeAt Go.RowKit
attribute [local go_sem] ext_cell ext_frozen ext_lt ext_lt1 ext_lt2 ext_lt3 ltn2 ltn3 ltn13 lts1 lts2 lts3

def GrO (lo hi : Nat) (w : World) (v : Value) (g : Gr) : Prop :=
  ∃ vs es mid, v = .agg #[vs, es] ∧ Own lo mid w 3 cI 1 vs g.vals ∧ Own mid hi w 144 cEd 4 es g.edges ∧ lo ≤ mid ∧ mid ≤ hi
theorem GrO.view {lo hi : Nat} {w : World} {v : Value} {g : Gr} (h : GrO lo hi w v g) : GrV lo hi w v g := by
  obtain ⟨vs, es, mid, rfl, h1, h2, h3, h4⟩ := h
  exact ⟨vs, es, rfl, (h1.sl cI_len).mono (Nat.le_refl _) h4, (h2.sl cEd_len).mono h3 (Nat.le_refl _)⟩
theorem GrO.below {lo hi : Nat} {w w' : World} {v : Value} {g : Gr} (h : GrO lo hi w v g) {B : Nat} (hb : Below B w w') (hB : hi ≤ B) : GrO lo hi w' v g := by
  obtain ⟨vs, es, mid, rfl, h1, h2, h3, h4⟩ := h
  exact ⟨vs, es, mid, rfl, h1.below hb (by omega), h2.below hb hB, h3, h4⟩

def szGr (g : Gr) (left : Int) : Int := if left < g.vals.length then -1 else if left - g.vals.length < g.edges.length then -1 else left - g.vals.length - g.edges.length

theorem szGr_le (g : Gr) (left : Int) (h : ¬ szGr g left < 0) : g.vals.length ≤ left.toNat ∧ g.edges.length ≤ left.toNat ∧ 0 ≤ szGr g left ∧ szGr g left ≤ left := by
  unfold szGr at h ⊢
  split at h
  · omega
  · split at h
    · omega
    · rw [if_neg (by omega), if_neg (by omega)]; omega

theorem szGraph_any (v : Value) (g : Gr) (left : Int) (w : World) (hv : GrV 0 w.heap.size w v g) (h0 : 0 ≤ left) (h1 : left ≤ 1048576) :
    Calls Try.prog 26 #[v, .int .i64 left] w fun e w' => e = .returned (.int .i64 (szGr g left)) ∧ Below w.heap.size w w' := by
  obtain ⟨vs, es, rfl, ⟨A1, c1, rfl, hl1, hm1, -⟩, ⟨A2, c2, rfl, hl2, hm2, -⟩⟩ := hv
  by_cases g1 : left < g.vals.length
  · rw [szGr, if_pos g1]
    have hc := szIntS_any A1 g.vals.length c1 left
    rw [if_pos g1] at hc
    have HC := Lib.hid hc
    clear hc
    go_enter Try.func26, Try.ntmps26
    go_wp2_with fail
    refine (HC.out _ (by omega) h0 h1).mono ?_; rintro e w1 ⟨rfl, rfl⟩
    go_wp2
    go_ret
    exact ⟨rfl, (Below.refl _ _).alloc (Nat.le_refl _) _⟩
  · rw [szGr, if_neg g1]
    have hc := szIntS_any A1 g.vals.length c1 left
    rw [if_neg g1] at hc
    have HC := Lib.hid hc
    clear hc
    by_cases g2 : left - g.vals.length < g.edges.length
    · rw [if_pos g2]
      have hd := szEdgeS_any A2 g.edges.length c2 (left - g.vals.length)
      rw [if_pos g2] at hd
      have HD := Lib.hid hd
      clear hd
      go_enter Try.func26, Try.ntmps26
      go_wp2_with fail
      refine (HC.out _ (by omega) h0 h1).mono ?_; rintro e w1 ⟨rfl, rfl⟩
      go_wp2_with fail
      refine (HD.out _ (by omega) (by omega) (by omega)).mono ?_; rintro e w1 ⟨rfl, rfl⟩
      go_wp2
      go_ret
      exact ⟨rfl, (Below.refl _ _).alloc (Nat.le_refl _) _⟩
    · rw [if_neg g2]
      have hd := szEdgeS_any A2 g.edges.length c2 (left - g.vals.length)
      rw [if_neg g2] at hd
      have HD := Lib.hid hd
      clear hd
      go_enter Try.func26, Try.ntmps26
      go_wp2_with fail
      refine (HC.out _ (by omega) h0 h1).mono ?_; rintro e w1 ⟨rfl, rfl⟩
      go_wp2_with fail
      refine (HD.out _ (by omega) (by omega) (by omega)).mono ?_; rintro e w1 ⟨rfl, rfl⟩
      go_wp2
      go_ret
      exact ⟨rfl, (Below.refl _ _).alloc (Nat.le_refl _) _⟩

set_option maxHeartbeats 4000000 in
theorem toGraph_any (v : Value) (g : Gr) (w : World) (hv : GrV 0 w.heap.size w v g) (h1 : g.vals.length ≤ 1048576) (h2 : g.edges.length ≤ 1048576) :
    Calls Try.prog 29 #[v] w fun e w' => ∃ v', e = .returned v' ∧ GrO w.heap.size w'.heap.size w' v' g ∧ Below w.heap.size w w' := by
  obtain ⟨vs, es, rfl, hvs, hes⟩ := hv
  go_enter Try.func29, Try.ntmps29
  go_wp2_with fail
  refine (toIntS_any vs g.vals _ ?_ h1).mono ?_
  · exact SlE.keep hvs (by repeat (first | exact Below.refl _ _ | refine Below.alloc ?_ (by simp <;> omega) _))
  rintro e w1 ⟨v1, rfl, ho1', hb1⟩
  have b0 := (((Blk.new w _ _ w.heap.size rfl).alloc _).alloc _).keep hb1
  have b1 := ((Blk.new (w.alloc _) _ _ (w.heap.size + 1) (by simp)).alloc _).keep hb1
  have b2 := (Blk.new ((w.alloc _).alloc _) _ _ (w.heap.size + 1 + 1) (by simp)).keep hb1
  have o1 : Only w.heap.size (w.heap.size + 3) w w1 := (((Only.refl _ _ _).alloc _).alloc _ |>.alloc _).trans (Only.of_below hb1 _ _)
  have ho1 : Own (w.heap.size + 3) w1.heap.size w1 _ cI 1 v1 g.vals := ho1'.mono (by simp) (Nat.le_refl _)
  clear ho1'
  obtain ⟨A1, n1, c1, rfl⟩ := ho1.shape
  have s1 : w.heap.size + 3 ≤ w1.heap.size := by have := hb1.size; simpa using this
  clear hb1
  have x0 : w1.cell? ⟨w.heap.size, 1, none⟩ = some es := b0.cell 1
  have x2 : w1.cell? ⟨w.heap.size + 1 + 1, 0, none⟩ = some (.slice none 0 0) := b2.cell 0
  have y2 := b2.frozen 0
  go_wp2_with fail
  refine (toEdgeS_any es g.edges _ ?_ h2).mono ?_
  · exact SlE.keep hes ((o1.setCell (.inl (by simp <;> omega)) _).below (Nat.le_refl _) (Nat.le_refl _))
  rintro e w2 ⟨v2, rfl, ho2', hb2⟩
  clear x0 x2 y2
  have o2 := (o1.setCell (p := ⟨w.heap.size + 1 + 1, 0, none⟩) (.inl (by simp <;> omega)) (.slice A1 n1 c1)).trans (Only.of_below hb2 _ _)
  have b1 := (b1.far (p := ⟨w.heap.size + 1 + 1, 0, none⟩) (by simp) (.slice A1 n1 c1)).keep hb2
  have b2 := (b2.set_ 0 (.slice A1 n1 c1)).keep hb2
  have s2 : w1.heap.size ≤ w2.heap.size := by have := hb2.size; simpa using this
  have ho2 : Own w1.heap.size w2.heap.size w2 _ cEd 4 v2 g.edges := ho2'.mono (by simp) (Nat.le_refl _)
  have ho1 := (ho1.only ((Only.refl w.heap.size (w.heap.size + 3) _).setCell (p := ⟨w.heap.size + 1 + 1, 0, none⟩) (.inl (by simp <;> omega)) (.slice A1 n1 c1)) (.inr (Nat.le_refl _))).below hb2 (by simp)
  obtain ⟨A2, n2, c2, rfl⟩ := ho2.shape
  have x1 : w2.cell? ⟨w.heap.size + 1, 0, none⟩ = some (.slice none 0 0) := b1.cell 0
  have x2 : w2.cell? ⟨w.heap.size + 1, 1, none⟩ = some (.slice none 0 0) := b1.cell 1
  have x3 : w2.cell? ⟨w.heap.size + 1 + 1, 0, none⟩ = some (.slice A1 n1 c1) := b2.cell 0
  have x4 : w2.cell? ⟨w.heap.size + 1 + 1, 1, none⟩ = some (.slice none 0 0) := b2.cell 1
  have y1 := b1.frozen 0
  have y2 := b1.frozen 1
  have y4 := b2.frozen 1
  clear ho2' hb2 hvs hes
  go_wp2_with fail
  have oz : Only w.heap.size (w.heap.size + 3) w2 _ := (((Only.refl _ _ w2).setCell (p := ⟨w.heap.size + 1 + 1, 1, none⟩) (.inl (by simp <;> omega)) (.slice A2 n2 c2)).setCell (p := ⟨w.heap.size + 1, 0, none⟩) (.inl (by simp <;> omega)) (.slice A1 n1 c1)).setCell (p := ⟨w.heap.size + 1, 1, none⟩) (.inl (by simp <;> omega)) (.slice A2 n2 c2)
  refine bodyPost_ret (v := .agg #[.slice A1 n1 c1, .slice A2 n2 c2]) (by simp [results, Try.results29, go_sem, x1, x2]) rfl ⟨_, rfl, ⟨_, _, w1.heap.size, rfl, (ho1.only oz (.inr (Nat.le_refl _))).mono (by omega) (Nat.le_refl _), (ho2.only oz (.inr s1)).mono (Nat.le_refl _) (by simp), by omega, by simp <;> omega⟩, (o2.trans oz).below (Nat.le_refl _) (Nat.le_refl _)⟩

set_option maxHeartbeats 1000000 in
theorem eqGraph_same (v1 v2 : Value) (g : Gr) (w : World) (hv1 : GrV 0 w.heap.size w v1 g) (hv2 : GrV 0 w.heap.size w v2 g) :
    Calls Try.prog 32 #[v1, v2] w fun e w' => e = .returned (.bool true) ∧ Below w.heap.size w w' := by
  obtain ⟨vs1, es1, rfl, hvs1, hes1⟩ := hv1
  obtain ⟨vs2, es2, rfl, hvs2, hes2⟩ := hv2
  have hb0 : Below w.heap.size w ((w.alloc (.cells #[vs1, es1] 48)).alloc (.cells #[vs2, es2] 48)) := ((Below.refl _ _).alloc (Nat.le_refl _) _).alloc (by simp) _
  go_enter Try.func32, Try.ntmps32
  go_wp2_with fail
  refine (eqIntS_same vs1 vs2 g.vals _ (SlE.keep hvs1 hb0) (SlE.keep hvs2 hb0)).mono ?_
  rintro e w1 ⟨rfl, hb1⟩
  have b0 := ((Blk.new w _ _ w.heap.size rfl).alloc _).keep hb1
  have b1 := (Blk.new (w.alloc _) _ _ (w.heap.size + 1) (by simp)).keep hb1
  have hb2 := below_trans hb0 hb1
  have x0 : w1.cell? ⟨w.heap.size, 1, none⟩ = some es1 := b0.cell 1
  have x1 : w1.cell? ⟨w.heap.size + 1, 1, none⟩ = some es2 := b1.cell 1
  clear hb0 hb1 b0 b1
  go_wp2_with fail
  refine (eqEdgeS_same es1 es2 g.edges _ (SlE.keep hes1 hb2) (SlE.keep hes2 hb2)).mono ?_
  rintro e w2 ⟨rfl, hb3⟩
  go_wp2_with fail
  go_ret
  exact ⟨rfl, below_trans hb2 hb3⟩

end Go.Proofs.Ytmlfkledhnlkeaa
