/- Parts of the proof, joined into one text: PairD, PrdD, WalkM, MatchM, AutI, GraphI. -/
import Derived.Test.YtallglnmeeahiaaPartHFPOIELL
import Derived.RegionTactic
import Derived.BigRegion
import Derived.Test.YtallglnmeeahiaaPartOFPIKNKI
import Derived.Test.YtallglnmeeahiaaPartEHONMLDA
import Derived.Test.YtallglnmeeahiaaPartGEEOALPK
/- A graph and an automaton drawn together (the reference's l14Pair). -/
namespace Go.Proofs.Ytallglnmeeahiaa
set_option linter.unusedVariables false
set_option linter.unusedSimpArgs false
open Go.ChangeShapes Go.WideShapes Go.ChangeAt Go.RowKit
attribute [local go_sem] ext_cell ext_frozen ext_lt ext_lt1 ext_lt2 ext_lt3 ltn2 ltn3 ltn13 lts1 lts2 lts3

/-- a graph in the block gq, an automaton in aq; the results' blocks r and r + 1 -/
structure PrR (b r gq aq : Nat) (w0 w : World) (gs es : Value) (g : Gr) (ac nx : Value) (a : Au) : Prop where
  res1 : Blk w r 38 #[.slice none 0 0, .slice none 0 0]
  res2 : Blk w (r + 1) 27 #[.int .i64 0, .slice none 0 0, .slice none 0 0]
  gbk : Blk w gq 38 #[gs, es]
  abk : Blk w aq 27 #[.int .i64 a.start, ac, nx]
  gv : ∃ lo hi, GrV lo hi w (.agg #[gs, es]) g ∧ r + 2 ≤ lo ∧ hi ≤ w.heap.size ∧ (gq < lo ∨ hi ≤ gq) ∧ (aq < lo ∨ hi ≤ aq)
  av : ∃ lo hi, AuV lo hi w (.agg #[.int .i64 a.start, ac, nx]) a ∧ r + 2 ≤ lo ∧ hi ≤ w.heap.size ∧ (gq < lo ∨ hi ≤ gq) ∧ (aq < lo ∨ hi ≤ aq)
  cur : Cur w b
  only : Only b (b + 1) w0 w
  at0 : w0.heap.size = r
  e12 : g.edges.length ≤ 11
  ord : b < r ∧ r + 2 ≤ gq ∧ gq < aq
def putGA (w : World) (r : Nat) (gs es st ac nx : Value) : World := (((((w.setCell ⟨r, 0, none⟩ gs).setCell ⟨r, 1, none⟩ es).setCell ⟨r + 1, 0, none⟩ st).setCell ⟨r + 1, 1, none⟩ ac).setCell ⟨r + 1, 2, none⟩ nx).drew
theorem putGA_only (w : World) (r : Nat) (gs es st ac nx : Value) : Only r (r + 2) w (putGA w r gs es st ac nx) := ((((((Only.refl r (r + 2) w).setCell (p := ⟨r, 0, none⟩) (.inl (by simp only; omega)) _).setCell (p := ⟨r, 1, none⟩) (.inl (by simp only; omega)) _).setCell (p := ⟨r + 1, 0, none⟩) (.inl (by simp only; omega)) _).setCell (p := ⟨r + 1, 1, none⟩) (.inl (by simp only; omega)) _).setCell (p := ⟨r + 1, 2, none⟩) (.inl (by simp only; omega)) _).drew
section
variable {b r gq aq : Nat} {w0 w w' : World} {gs es : Value} {g : Gr} {ac nx : Value} {a : Au}
theorem PrR.step (h : PrR b r gq aq w0 w gs es g ac nx a) (ho : Only b (b + 1) w w') (hc : Cur w' b) : PrR b r gq aq w0 w' gs es g ac nx a := by
  have hd := h.ord
  obtain ⟨lo, hi, h1, h2, h3, h4⟩ := h.gv
  obtain ⟨lo', hi', k1, k2, k3, k4⟩ := h.av
  exact ⟨h.res1.only ho (.inr (by omega)), h.res2.only ho (.inr (by omega)), h.gbk.only ho (.inr (by omega)), h.abk.only ho (.inr (by omega)), ⟨lo, hi, h1.only ho h3 (.inr (by omega)), h2, Nat.le_trans h3 ho.size, h4⟩, ⟨lo', hi', k1.only ho k3 (.inr (by omega)), k2, Nat.le_trans k3 ho.size, k4⟩, hc, h.only.trans ho, h.at0, h.e12, hd⟩
theorem PrR.setG {gs' es' : Value} {g' : Gr} {lo : Nat} (h : PrR b r gq aq w0 w gs es g ac nx a) (hg : GrV lo w.heap.size w (.agg #[gs', es']) g') (he : g'.edges.length ≤ 11) (hlo : aq < lo) : PrR b r gq aq w0 ((w.setCell ⟨gq, 0, none⟩ gs').setCell ⟨gq, 1, none⟩ es') gs' es' g' ac nx a := by
  have hd := h.ord
  have h0 := h.at0
  have ho := Only.put2 w gq gs' es'
  obtain ⟨lo', hi', k1, k2, k3, k4⟩ := h.av
  exact ⟨h.res1.only ho (.inl (by omega)), h.res2.only ho (.inl (by omega)), (h.gbk.set_ 0 gs').set_ 1 es', h.abk.only ho (.inr (by omega)), ⟨lo, w.heap.size, hg.only ho (Nat.le_refl _) (.inr (by omega)), by omega, ho.size, .inl (by omega), .inl (by omega)⟩, ⟨lo', hi', k1.only ho k3 (by omega), k2, Nat.le_trans k3 ho.size, k4⟩, h.cur.only ho (by omega),
    (h.only.setCell (p := ⟨gq, 0, none⟩) (.inr (by simp only; omega)) _).setCell (p := ⟨gq, 1, none⟩) (.inr (by simp only; omega)) _, h.at0, he, hd⟩
theorem PrR.setA {ac' nx' : Value} {a' : Au} {lo : Nat} (h : PrR b r gq aq w0 w gs es g ac nx a) (ha : AuV lo w.heap.size w (.agg #[.int .i64 a'.start, ac', nx']) a') (hlo : aq < lo) : PrR b r gq aq w0 (put3 w aq (.int .i64 a'.start) ac' nx') gs es g ac' nx' a' := by
  have hd := h.ord
  have h0 := h.at0
  have ho := put3_only w aq (.int .i64 a'.start) ac' nx'
  obtain ⟨lo', hi', k1, k2, k3, k4⟩ := h.gv
  exact ⟨h.res1.only ho (.inl (by omega)), h.res2.only ho (.inl (by omega)), h.gbk.only ho (.inl (by omega)), ((h.abk.set_ 0 (.int .i64 a'.start)).set_ 1 ac').set_ 2 nx', ⟨lo', hi', k1.only ho k3 (by omega), k2, Nat.le_trans k3 ho.size, k4⟩, ⟨lo, w.heap.size, ha.only ho (Nat.le_refl _) (.inr (by omega)), by omega, ho.size, .inl (by omega), .inl (by omega)⟩, h.cur.only ho (by omega),
    ((h.only.setCell (p := ⟨aq, 0, none⟩) (.inr (by simp only; omega)) _).setCell (p := ⟨aq, 1, none⟩) (.inr (by simp only; omega)) _).setCell (p := ⟨aq, 2, none⟩) (.inr (by simp only; omega)) _, h.at0, h.e12, hd⟩
theorem PrR.done (h : PrR b r gq aq w0 w gs es g ac nx a) (v1 v2 v3 v4 v5 : Value) :
    GrV w0.heap.size (putGA w r v1 v2 v3 v4 v5).heap.size (putGA w r v1 v2 v3 v4 v5) (.agg #[gs, es]) g ∧ g.edges.length ≤ 11 ∧ AuV w0.heap.size (putGA w r v1 v2 v3 v4 v5).heap.size (putGA w r v1 v2 v3 v4 v5) (.agg #[.int .i64 a.start, ac, nx]) a ∧ Cur (putGA w r v1 v2 v3 v4 v5) b ∧ Only b (b + 1) w0 (putGA w r v1 v2 v3 v4 v5) := by
  have hd := h.ord
  have h0 := h.at0
  have ho := putGA_only w r v1 v2 v3 v4 v5
  have hs := ho.size
  obtain ⟨lo, hi, h1, h2, h3, h4⟩ := h.gv
  obtain ⟨lo', hi', k1, k2, k3, k4⟩ := h.av
  exact ⟨(h1.only ho h3 (.inr (by omega))).mono (by omega) (by omega), h.e12, (k1.only ho k3 (.inr (by omega))).mono (by omega) (by omega), h.cur.only ho (by omega),
    (((((h.only.setCell (p := ⟨r, 0, none⟩) (.inr (by simp only; omega)) _).setCell (p := ⟨r, 1, none⟩) (.inr (by simp only; omega)) _).setCell (p := ⟨r + 1, 0, none⟩) (.inr (by simp only; omega)) _).setCell (p := ⟨r + 1, 1, none⟩) (.inr (by simp only; omega)) _).setCell (p := ⟨r + 1, 2, none⟩) (.inr (by simp only; omega)) _).drew⟩
end
def PairOut (b : Nat) (w : World) (e : Ending) (w' : World) : Prop := ∃ vg va g a, e = .returned (.tuple #[vg, va]) ∧ (GrV w.heap.size w'.heap.size w' vg g ∧ g.edges.length ≤ 11 ∧ AuV w.heap.size w'.heap.size w' va a ∧ Cur w' b ∧ Only b (b + 1) w w')
set_option maxHeartbeats 8000000 in
theorem l14Pair_any (b : Nat) (w : World) (hc : Cur w b) :
    Calls Try.prog 54 #[.pointer (some ⟨b, 0, none⟩)] w (PairOut b w) := by
  have hbw := hc.lt
  have hb0 := ((Below.refl w.heap.size w).alloc (Nat.le_refl _) (.cells #[.slice none 0 0, .slice none 0 0] 38)).alloc (by simp) (.cells #[.int .i64 0, .slice none 0 0, .slice none 0 0] 27)
  have hb1 := (Blk.new w 38 #[.slice none 0 0, .slice none 0 0] _ rfl).alloc (.cells #[.int .i64 0, .slice none 0 0, .slice none 0 0] 27)
  have hb2 := Blk.new (w.alloc (.cells #[.slice none 0 0, .slice none 0 0] 38)) 27 #[.int .i64 0, .slice none 0 0, .slice none 0 0] (w.heap.size + 1) (by simp)
  have hs0 : ((w.alloc (.cells #[.slice none 0 0, .slice none 0 0] 38)).alloc (.cells #[.int .i64 0, .slice none 0 0, .slice none 0 0] 27)).heap.size = w.heap.size + 2 := by simp
  go_enter Try.func54, Try.ntmps54
  go_wp2_with fail
  refine (l3Graph_any b _ (hc.keep hb0)).mono ?_
  rintro e w1 ⟨v, g, rfl, hgo, ⟨-, -, hg10⟩, hc1, ho1⟩
  have hgv := hgo.view
  obtain ⟨A1, n1, c1, A2, n2, c2, rfl⟩ := hgv.shape
  rw [hs0] at hgv
  have hs1 := ho1.size
  rw [hs0] at hs1
  have hal1 := (Below.refl w1.heap.size w1).alloc (Nat.le_refl _) (.cells #[.slice A1 n1 c1, .slice A2 n2 c2] 38)
  have hgb := Blk.new w1 38 #[.slice A1 n1 c1, .slice A2 n2 c2] _ rfl
  have hr1 := (hb1.only ho1 (.inr (by omega))).keep hal1
  have hr2 := (hb2.only ho1 (.inr (by omega))).keep hal1
  have hgv1 := hgv.below hal1 (Nat.le_refl _)
  have hcA := hc1.keep hal1
  have hoA := ((Only.of_below hb0 b (b + 1)).trans ho1).trans (Only.of_below hal1 b (b + 1))
  have hsA : (w1.alloc (.cells #[.slice A1 n1 c1, .slice A2 n2 c2] 38)).heap.size = w1.heap.size + 1 := by simp
  obtain ⟨gq, hgq⟩ : ∃ gq, gq = w1.heap.size := ⟨_, rfl⟩
  rw [← hgq] at hs1 hgb hgv1 hsA
  clear hgo hgv hc1 ho1 hb1 hb2 hb0 hs0 hal1 hc
  go_wp2_with fail
  rw [← hgq]
  generalize w1.alloc (.cells #[.slice A1 n1 c1, .slice A2 n2 c2] 38) = W1 at *
  clear hgq
  refine (l11Aut_any b _ hcA).mono ?_
  rintro e w2 ⟨⟨st, ac, nx, us, acc, nxt, rfl, hau, hnn, ho2⟩, hc2⟩
  clear hnn
  have hav := hau.view st
  obtain ⟨a, ha⟩ : ∃ a : Au, a = ⟨st, acc, nxt⟩ := ⟨_, rfl⟩
  obtain rfl : st = a.start := by rw [ha]
  rw [← ha] at hav
  obtain ⟨A3, c3, rfl, -, -, -⟩ := ownSh hau.acc
  obtain ⟨A4, c4, rfl, -, -, -⟩ := ownSh hau.nxt.own
  generalize acc.length = n3 at hav ⊢
  generalize us.length = n4 at hav ⊢
  rw [hsA] at hav
  have hs2 := ho2.size
  rw [hsA] at hs2
  have hal2 := (Below.refl w2.heap.size w2).alloc (Nat.le_refl _) (.cells #[.int .i64 a.start, .slice A3 n3 c3, .slice A4 n4 c4] 27)
  have hsB : w2.heap.size ≤ (w2.alloc (.cells #[.int .i64 a.start, .slice A3 n3 c3, .slice A4 n4 c4] 27)).heap.size := hal2.size
  obtain ⟨aq, haq⟩ : ∃ aq, aq = w2.heap.size := ⟨_, rfl⟩
  have HP := Lib.hid (show PrR b w.heap.size gq aq w (w2.alloc (.cells #[.int .i64 a.start, .slice A3 n3 c3, .slice A4 n4 c4] 27)) _ _ g _ _ a from
    ⟨(hr1.only ho2 (.inr (by omega))).keep hal2, (hr2.only ho2 (.inr (by omega))).keep hal2, (hgb.only ho2 (.inr (by omega))).keep hal2, Blk.new w2 _ _ _ haq, ⟨w.heap.size + 2, gq, (hgv1.only ho2 (by omega) (.inr (by omega))).below hal2 (by omega), by omega, by omega, .inr (by omega), .inr (by omega)⟩,
      ⟨gq + 1, aq, (haq ▸ hav.below hal2 (Nat.le_refl _)), by omega, by omega, .inl (by omega), .inr (by omega)⟩, hc2.keep hal2, (hoA.trans ho2).trans (Only.of_below hal2 b (b + 1)), rfl, by omega, by omega⟩)
  clear hau hav ho2 hc2 hr1 hr2 hgb hgv1 hcA hoA hsA hal2 hsB hs2 ha hs1 hg10
  go_upto_region 3 with fail
  rw [← haq]
  generalize w2.alloc (.cells #[.int .i64 a.start, .slice A3 n3 c3, .slice A4 n4 c4] 27) = W2 at *
  clear haq
  go_wp2_with fail
  refine (l1Once_any b 16 _ HP.out.cur).mono ?_
  rintro e w3 ⟨t, rfl, hc3, ho3⟩
  have HP3 := Lib.hid (HP.out.step ho3 hc3)
  clear HP hc3 ho3
  cases t
  · skip
    go_wp2_with fail
    refine (l1Once_any b 16 _ HP3.out.cur).mono ?_
    rintro e w5 ⟨t2, rfl, hc5, ho5⟩
    have HP5 := Lib.hid (HP3.out.step ho5 hc5)
    clear HP3 hc5 ho5
    cases t2
    · skip
      have x0 : w5.cell? ⟨gq, 0, none⟩ = some (.slice A1 n1 c1) := HP5.out.gbk.cell 0
      have x1 : w5.cell? ⟨gq, 1, none⟩ = some (.slice A2 n2 c2) := HP5.out.gbk.cell 1
      have y0 : w5.cell? ⟨aq, 0, none⟩ = some (.int .i64 a.start) := HP5.out.abk.cell 0
      have y1 : w5.cell? ⟨aq, 1, none⟩ = some (.slice A3 n3 c3) := HP5.out.abk.cell 1
      have y2 : w5.cell? ⟨aq, 2, none⟩ = some (.slice A4 n4 c4) := HP5.out.abk.cell 2
      have z0 : w5.cell? ⟨w.heap.size, 0, none⟩ = some (.slice none 0 0) := HP5.out.res1.cell 0
      have z1 : w5.cell? ⟨w.heap.size, 1, none⟩ = some (.slice none 0 0) := HP5.out.res1.cell 1
      have z2 : w5.cell? ⟨w.heap.size + 1, 0, none⟩ = some (.int .i64 0) := HP5.out.res2.cell 0
      have z3 : w5.cell? ⟨w.heap.size + 1, 1, none⟩ = some (.slice none 0 0) := HP5.out.res2.cell 1
      have z4 : w5.cell? ⟨w.heap.size + 1, 2, none⟩ = some (.slice none 0 0) := HP5.out.res2.cell 2
      have v0 := HP5.out.res1.frozen 0
      have v1 := HP5.out.res1.frozen 1
      have v2 := HP5.out.res2.frozen 0
      have v3 := HP5.out.res2.frozen 1
      have v4 := HP5.out.res2.frozen 2
      have hlr := HP5.out.res1.lt
      have hls := HP5.out.res2.lt
      have hord := HP5.out.ord
      have q1 : ¬ aq = w.heap.size := by omega
      have q2 : ¬ w.heap.size = aq := by omega
      have q3 : ¬ aq = w.heap.size + 1 := by omega
      have q4 : ¬ w.heap.size + 1 = aq := by omega
      have q5 : ¬ gq = w.heap.size := by omega
      have q6 : ¬ w.heap.size = gq := by omega
      have q7 : ¬ gq = w.heap.size + 1 := by omega
      have q8 : ¬ w.heap.size + 1 = gq := by omega
      clear hord
      go_wp2_with fail
      go_region
      have HD := HP5.out.done (.slice A1 n1 c1) (.slice A2 n2 c2) (.int .i64 a.start) (.slice A3 n3 c3) (.slice A4 n4 c4)
      go_wp2_with fail
      refine bodyPost_ret (v := .tuple #[.agg #[.slice A1 n1 c1, .slice A2 n2 c2], .agg #[.int .i64 a.start, .slice A3 n3 c3, .slice A4 n4 c4]]) (by simp [results, Try.results54, go_sem, z0, z1, z2, z3, z4, v0, v1, v2, v3, v4]) rfl ⟨_, _, _, _, rfl, HD⟩
    · go_wp2_with fail
      refine (l11Any_any b _ HP5.out.cur).mono ?_
      rintro e w6 ⟨va, a', rfl, hau', hc6, ho6⟩
      obtain ⟨A7, n7, c7, A8, n8, c8, rfl⟩ := hau'.shape
      have HP6 := Lib.hid (HP5.out.step ho6 hc6)
      have hlt5 := HP5.out.abk.lt
      have f0 := HP6.out.abk.frozen 0
      have f1 := HP6.out.abk.frozen 1
      have f2 := HP6.out.abk.frozen 2
      have u0 : w6.cell? ⟨aq, 0, none⟩ = some (.int .i64 a.start) := HP6.out.abk.cell 0
      have u1 : w6.cell? ⟨aq, 1, none⟩ = some (.slice A3 n3 c3) := HP6.out.abk.cell 1
      have u2 : w6.cell? ⟨aq, 2, none⟩ = some (.slice A4 n4 c4) := HP6.out.abk.cell 2
      have hla := HP6.out.abk.lt
      have HP7 := Lib.hid (HP6.out.setA hau' hlt5)
      clear hc6 ho6 hau' HP5 HP6
      go_upto_region 7 with fail
      change Code.wp _ _ _ _ (put3 w6 aq (.int .i64 a'.start) (.slice A7 n7 c7) (.slice A8 n8 c8))
      generalize put3 w6 aq (.int .i64 a'.start) (.slice A7 n7 c7) (.slice A8 n8 c8) = w7 at *
      clear f0 f1 f2 u0 u1 u2 hla hlt5
      have x0 : w7.cell? ⟨gq, 0, none⟩ = some (.slice A1 n1 c1) := HP7.out.gbk.cell 0
      have x1 : w7.cell? ⟨gq, 1, none⟩ = some (.slice A2 n2 c2) := HP7.out.gbk.cell 1
      have y0 : w7.cell? ⟨aq, 0, none⟩ = some (.int .i64 a'.start) := HP7.out.abk.cell 0
      have y1 : w7.cell? ⟨aq, 1, none⟩ = some (.slice A7 n7 c7) := HP7.out.abk.cell 1
      have y2 : w7.cell? ⟨aq, 2, none⟩ = some (.slice A8 n8 c8) := HP7.out.abk.cell 2
      have z0 : w7.cell? ⟨w.heap.size, 0, none⟩ = some (.slice none 0 0) := HP7.out.res1.cell 0
      have z1 : w7.cell? ⟨w.heap.size, 1, none⟩ = some (.slice none 0 0) := HP7.out.res1.cell 1
      have z2 : w7.cell? ⟨w.heap.size + 1, 0, none⟩ = some (.int .i64 0) := HP7.out.res2.cell 0
      have z3 : w7.cell? ⟨w.heap.size + 1, 1, none⟩ = some (.slice none 0 0) := HP7.out.res2.cell 1
      have z4 : w7.cell? ⟨w.heap.size + 1, 2, none⟩ = some (.slice none 0 0) := HP7.out.res2.cell 2
      have v0 := HP7.out.res1.frozen 0
      have v1 := HP7.out.res1.frozen 1
      have v2 := HP7.out.res2.frozen 0
      have v3 := HP7.out.res2.frozen 1
      have v4 := HP7.out.res2.frozen 2
      have hlr := HP7.out.res1.lt
      have hls := HP7.out.res2.lt
      have hord := HP7.out.ord
      have q1 : ¬ aq = w.heap.size := by omega
      have q2 : ¬ w.heap.size = aq := by omega
      have q3 : ¬ aq = w.heap.size + 1 := by omega
      have q4 : ¬ w.heap.size + 1 = aq := by omega
      have q5 : ¬ gq = w.heap.size := by omega
      have q6 : ¬ w.heap.size = gq := by omega
      have q7 : ¬ gq = w.heap.size + 1 := by omega
      have q8 : ¬ w.heap.size + 1 = gq := by omega
      clear hord
      go_wp2_with fail
      go_region
      have HD := HP7.out.done (.slice A1 n1 c1) (.slice A2 n2 c2) (.int .i64 a'.start) (.slice A7 n7 c7) (.slice A8 n8 c8)
      go_wp2_with fail
      refine bodyPost_ret (v := .tuple #[.agg #[.slice A1 n1 c1, .slice A2 n2 c2], .agg #[.int .i64 a'.start, .slice A7 n7 c7, .slice A8 n8 c8]]) (by simp [results, Try.results54, go_sem, z0, z1, z2, z3, z4, v0, v1, v2, v3, v4]) rfl ⟨_, _, _, _, rfl, HD⟩
  · go_wp2_with fail
    refine (l3Any_any b _ HP3.out.cur).mono ?_
    rintro e w4 ⟨v4, g', rfl, hgv4, ⟨-, hg11⟩, hc4, ho4⟩
    obtain ⟨A5, n5, c5, A6, n6, c6, rfl⟩ := hgv4.shape
    have HP4 := Lib.hid (HP3.out.step ho4 hc4)
    have hlt3 := HP3.out.abk.lt
    have f0 := HP4.out.gbk.frozen 0
    have f1 := HP4.out.gbk.frozen 1
    have u0 : w4.cell? ⟨gq, 0, none⟩ = some (.slice A1 n1 c1) := HP4.out.gbk.cell 0
    have u1 : w4.cell? ⟨gq, 1, none⟩ = some (.slice A2 n2 c2) := HP4.out.gbk.cell 1
    have hlg := HP4.out.gbk.lt
    have HPG := Lib.hid (HP4.out.setG hgv4 hg11 hlt3)
    clear hc4 ho4 hgv4 HP3 HP4 hg11
    go_upto_region 5 with fail
    generalize (w4.setCell ⟨gq, 0, none⟩ (.slice A5 n5 c5)).setCell ⟨gq, 1, none⟩ (.slice A6 n6 c6) = W4 at *
    clear f0 f1 u0 u1 hlg hlt3
    go_wp2_with fail
    refine (l1Once_any b 16 _ HPG.out.cur).mono ?_
    rintro e w5 ⟨t2, rfl, hc5, ho5⟩
    have HP5 := Lib.hid (HPG.out.step ho5 hc5)
    clear HPG hc5 ho5
    cases t2
    · skip
      have x0 : w5.cell? ⟨gq, 0, none⟩ = some (.slice A5 n5 c5) := HP5.out.gbk.cell 0
      have x1 : w5.cell? ⟨gq, 1, none⟩ = some (.slice A6 n6 c6) := HP5.out.gbk.cell 1
      have y0 : w5.cell? ⟨aq, 0, none⟩ = some (.int .i64 a.start) := HP5.out.abk.cell 0
      have y1 : w5.cell? ⟨aq, 1, none⟩ = some (.slice A3 n3 c3) := HP5.out.abk.cell 1
      have y2 : w5.cell? ⟨aq, 2, none⟩ = some (.slice A4 n4 c4) := HP5.out.abk.cell 2
      have z0 : w5.cell? ⟨w.heap.size, 0, none⟩ = some (.slice none 0 0) := HP5.out.res1.cell 0
      have z1 : w5.cell? ⟨w.heap.size, 1, none⟩ = some (.slice none 0 0) := HP5.out.res1.cell 1
      have z2 : w5.cell? ⟨w.heap.size + 1, 0, none⟩ = some (.int .i64 0) := HP5.out.res2.cell 0
      have z3 : w5.cell? ⟨w.heap.size + 1, 1, none⟩ = some (.slice none 0 0) := HP5.out.res2.cell 1
      have z4 : w5.cell? ⟨w.heap.size + 1, 2, none⟩ = some (.slice none 0 0) := HP5.out.res2.cell 2
      have v0 := HP5.out.res1.frozen 0
      have v1 := HP5.out.res1.frozen 1
      have v2 := HP5.out.res2.frozen 0
      have v3 := HP5.out.res2.frozen 1
      have v4 := HP5.out.res2.frozen 2
      have hlr := HP5.out.res1.lt
      have hls := HP5.out.res2.lt
      have hord := HP5.out.ord
      have q1 : ¬ aq = w.heap.size := by omega
      have q2 : ¬ w.heap.size = aq := by omega
      have q3 : ¬ aq = w.heap.size + 1 := by omega
      have q4 : ¬ w.heap.size + 1 = aq := by omega
      have q5 : ¬ gq = w.heap.size := by omega
      have q6 : ¬ w.heap.size = gq := by omega
      have q7 : ¬ gq = w.heap.size + 1 := by omega
      have q8 : ¬ w.heap.size + 1 = gq := by omega
      clear hord
      go_wp2_with fail
      go_region
      have HD := HP5.out.done (.slice A5 n5 c5) (.slice A6 n6 c6) (.int .i64 a.start) (.slice A3 n3 c3) (.slice A4 n4 c4)
      go_wp2_with fail
      refine bodyPost_ret (v := .tuple #[.agg #[.slice A5 n5 c5, .slice A6 n6 c6], .agg #[.int .i64 a.start, .slice A3 n3 c3, .slice A4 n4 c4]]) (by simp [results, Try.results54, go_sem, z0, z1, z2, z3, z4, v0, v1, v2, v3, v4]) rfl ⟨_, _, _, _, rfl, HD⟩
    · go_wp2_with fail
      refine (l11Any_any b _ HP5.out.cur).mono ?_
      rintro e w6 ⟨va, a', rfl, hau', hc6, ho6⟩
      obtain ⟨A7, n7, c7, A8, n8, c8, rfl⟩ := hau'.shape
      have HP6 := Lib.hid (HP5.out.step ho6 hc6)
      have hlt5 := HP5.out.abk.lt
      have f0 := HP6.out.abk.frozen 0
      have f1 := HP6.out.abk.frozen 1
      have f2 := HP6.out.abk.frozen 2
      have u0 : w6.cell? ⟨aq, 0, none⟩ = some (.int .i64 a.start) := HP6.out.abk.cell 0
      have u1 : w6.cell? ⟨aq, 1, none⟩ = some (.slice A3 n3 c3) := HP6.out.abk.cell 1
      have u2 : w6.cell? ⟨aq, 2, none⟩ = some (.slice A4 n4 c4) := HP6.out.abk.cell 2
      have hla := HP6.out.abk.lt
      have HP7 := Lib.hid (HP6.out.setA hau' hlt5)
      clear hc6 ho6 hau' HP5 HP6
      go_upto_region 7 with fail
      change Code.wp _ _ _ _ (put3 w6 aq (.int .i64 a'.start) (.slice A7 n7 c7) (.slice A8 n8 c8))
      generalize put3 w6 aq (.int .i64 a'.start) (.slice A7 n7 c7) (.slice A8 n8 c8) = w7 at *
      clear f0 f1 f2 u0 u1 u2 hla hlt5
      have x0 : w7.cell? ⟨gq, 0, none⟩ = some (.slice A5 n5 c5) := HP7.out.gbk.cell 0
      have x1 : w7.cell? ⟨gq, 1, none⟩ = some (.slice A6 n6 c6) := HP7.out.gbk.cell 1
      have y0 : w7.cell? ⟨aq, 0, none⟩ = some (.int .i64 a'.start) := HP7.out.abk.cell 0
      have y1 : w7.cell? ⟨aq, 1, none⟩ = some (.slice A7 n7 c7) := HP7.out.abk.cell 1
      have y2 : w7.cell? ⟨aq, 2, none⟩ = some (.slice A8 n8 c8) := HP7.out.abk.cell 2
      have z0 : w7.cell? ⟨w.heap.size, 0, none⟩ = some (.slice none 0 0) := HP7.out.res1.cell 0
      have z1 : w7.cell? ⟨w.heap.size, 1, none⟩ = some (.slice none 0 0) := HP7.out.res1.cell 1
      have z2 : w7.cell? ⟨w.heap.size + 1, 0, none⟩ = some (.int .i64 0) := HP7.out.res2.cell 0
      have z3 : w7.cell? ⟨w.heap.size + 1, 1, none⟩ = some (.slice none 0 0) := HP7.out.res2.cell 1
      have z4 : w7.cell? ⟨w.heap.size + 1, 2, none⟩ = some (.slice none 0 0) := HP7.out.res2.cell 2
      have v0 := HP7.out.res1.frozen 0
      have v1 := HP7.out.res1.frozen 1
      have v2 := HP7.out.res2.frozen 0
      have v3 := HP7.out.res2.frozen 1
      have v4 := HP7.out.res2.frozen 2
      have hlr := HP7.out.res1.lt
      have hls := HP7.out.res2.lt
      have hord := HP7.out.ord
      have q1 : ¬ aq = w.heap.size := by omega
      have q2 : ¬ w.heap.size = aq := by omega
      have q3 : ¬ aq = w.heap.size + 1 := by omega
      have q4 : ¬ w.heap.size + 1 = aq := by omega
      have q5 : ¬ gq = w.heap.size := by omega
      have q6 : ¬ w.heap.size = gq := by omega
      have q7 : ¬ gq = w.heap.size + 1 := by omega
      have q8 : ¬ w.heap.size + 1 = gq := by omega
      clear hord
      go_wp2_with fail
      go_region
      have HD := HP7.out.done (.slice A5 n5 c5) (.slice A6 n6 c6) (.int .i64 a'.start) (.slice A7 n7 c7) (.slice A8 n8 c8)
      go_wp2_with fail
      refine bodyPost_ret (v := .tuple #[.agg #[.slice A5 n5 c5, .slice A6 n6 c6], .agg #[.int .i64 a'.start, .slice A7 n7 c7, .slice A8 n8 c8]]) (by simp [results, Try.results54, go_sem, z0, z1, z2, z3, z4, v0, v1, v2, v3, v4]) rfl ⟨_, _, _, _, rfl, HD⟩
end Go.Proofs.Ytallglnmeeahiaa

/- What FnProduct draws: a graph, an automaton, a node and a state. -/
namespace Go.Proofs.Ytallglnmeeahiaa
set_option linter.unusedVariables false
set_option linter.unusedSimpArgs false
open Go.ChangeShapes Go.WideShapes Go.ChangeAt Go.RowKit
attribute [local go_sem] ext_cell ext_frozen ext_lt ext_lt1 ext_lt2 ext_lt3 ltn2 ltn3 ltn13 lts1 lts2 lts3

/-- a graph in the block gq, an automaton in aq, the cursor in b; the results' blocks r and r + 1 -/
structure PdR (b r gq aq : Nat) (w0 w : World) (gs es : Value) (g : Gr) (ac nx : Value) (a : Au) : Prop where
  res1 : Blk w r 38 #[.slice none 0 0, .slice none 0 0]
  res2 : Blk w (r + 1) 27 #[.int .i64 0, .slice none 0 0, .slice none 0 0]
  gbk : Blk w gq 38 #[gs, es]
  abk : Blk w aq 27 #[.int .i64 a.start, ac, nx]
  gv : GrV (b + 1) gq w (.agg #[gs, es]) g
  av : AuV (b + 1) gq w (.agg #[.int .i64 a.start, ac, nx]) a
  cur : Cur w b
  bel : Below w0.heap.size w0 w
  at0 : w0.heap.size = r
  e11 : g.edges.length ≤ 11
  ord : r + 1 < b ∧ b < gq ∧ gq < aq
def putGB (w : World) (r : Nat) (gs es st ac nx : Value) : World := ((((w.setCell ⟨r, 0, none⟩ gs).setCell ⟨r, 1, none⟩ es).setCell ⟨r + 1, 0, none⟩ st).setCell ⟨r + 1, 1, none⟩ ac).setCell ⟨r + 1, 2, none⟩ nx
theorem putGB_only (w : World) (r : Nat) (gs es st ac nx : Value) : Only r (r + 2) w (putGB w r gs es st ac nx) := (((((Only.refl r (r + 2) w).setCell (p := ⟨r, 0, none⟩) (.inl (by simp only; omega)) _).setCell (p := ⟨r, 1, none⟩) (.inl (by simp only; omega)) _).setCell (p := ⟨r + 1, 0, none⟩) (.inl (by simp only; omega)) _).setCell (p := ⟨r + 1, 1, none⟩) (.inl (by simp only; omega)) _).setCell (p := ⟨r + 1, 2, none⟩) (.inl (by simp only; omega)) _
section
variable {b r gq aq : Nat} {w0 w w' : World} {gs es : Value} {g : Gr} {ac nx : Value} {a : Au}
theorem PdR.step (h : PdR b r gq aq w0 w gs es g ac nx a) (ho : Only b (b + 1) w w') (hc : Cur w' b) : PdR b r gq aq w0 w' gs es g ac nx a := by
  have hd := h.ord
  have hq := h.abk.lt
  have h0 := h.at0
  exact ⟨h.res1.only ho (.inl (by omega)), h.res2.only ho (.inl (by omega)), h.gbk.only ho (.inr (by omega)), h.abk.only ho (.inr (by omega)), h.gv.only ho (by omega) (.inr (by omega)), h.av.only ho (by omega) (.inr (by omega)), hc, h.bel.trans (ho.below (B := w0.heap.size) (by omega) h.bel.size), h.at0, h.e11, hd⟩
theorem PdR.drew (h : PdR b r gq aq w0 w gs es g ac nx a) : PdR b r gq aq w0 w.drew gs es g ac nx a := by
  have hb := (Below.refl w.heap.size w).drew
  have hd := h.ord
  have hq := h.abk.lt
  exact ⟨h.res1.keep hb, h.res2.keep hb, h.gbk.keep hb, h.abk.keep hb, h.gv.below hb (by omega), h.av.below hb (by omega), h.cur.keep hb, below_trans h.bel hb, h.at0, h.e11, hd⟩
theorem PdR.done (h : PdR b r gq aq w0 w gs es g ac nx a) (v1 v2 v3 v4 v5 : Value) :
    GrV 0 (putGB w r v1 v2 v3 v4 v5).heap.size (putGB w r v1 v2 v3 v4 v5) (.agg #[gs, es]) g ∧ g.edges.length ≤ 11 ∧ AuV 0 (putGB w r v1 v2 v3 v4 v5).heap.size (putGB w r v1 v2 v3 v4 v5) (.agg #[.int .i64 a.start, ac, nx]) a ∧ Below w0.heap.size w0 (putGB w r v1 v2 v3 v4 v5) := by
  have hd := h.ord
  have h0 := h.at0
  have hq := h.abk.lt
  have ho := putGB_only w r v1 v2 v3 v4 v5
  have hs := ho.size
  exact ⟨(h.gv.only ho (by omega) (.inr (by omega))).mono (by omega) (by omega), h.e11, (h.av.only ho (by omega) (.inr (by omega))).mono (by omega) (by omega), h.bel.trans (ho.below (B := w0.heap.size) (by omega) h.bel.size)⟩
/-- the graph's block is as it was behind the first store -/
theorem PdR.put (h : PdR b r gq aq w0 w gs es g ac nx a) (v1 v2 : Value) :
    Blk ((w.setCell ⟨r, 0, none⟩ v1).setCell ⟨r, 1, none⟩ v2) gq 38 #[gs, es] ∧ Blk ((w.setCell ⟨r, 0, none⟩ v1).setCell ⟨r, 1, none⟩ v2) aq 27 #[.int .i64 a.start, ac, nx] ∧ Blk ((w.setCell ⟨r, 0, none⟩ v1).setCell ⟨r, 1, none⟩ v2) (r + 1) 27 #[.int .i64 0, .slice none 0 0, .slice none 0 0] := by
  have hd := h.ord
  have ho := Only.put2 w r v1 v2
  exact ⟨h.gbk.only ho (.inr (by omega)), h.abk.only ho (.inr (by omega)), h.res2.only ho (.inr (by omega))⟩
end
theorem gr_len {lo hi : Nat} {w : World} {A1 A2 : Option Addr} {n1 c1 n2 c2 : Nat} {g : Gr} (h : GrV lo hi w (.agg #[.slice A1 n1 c1, .slice A2 n2 c2]) g) : n1 ≤ maxLen := by
  obtain ⟨vs, es, hv, ⟨A, c, rfl, hl, hm, -⟩, -⟩ := h
  simp at hv
  obtain ⟨⟨-, h2, -⟩, -⟩ := hv
  omega
theorem auP_len {lo hi : Nat} {w : World} {s : Int} {A1 A2 : Option Addr} {n1 c1 n2 c2 : Nat} {a : Au} (h : AuV lo hi w (.agg #[.int .i64 s, .slice A1 n1 c1, .slice A2 n2 c2]) a) : n1 ≤ maxLen := by
  obtain ⟨ac, nx, hv, ⟨A, c, rfl, hl, hm, -⟩, -⟩ := h
  simp at hv
  obtain ⟨-, ⟨-, h2, -⟩, -⟩ := hv
  omega
def ProdOut (w : World) (e : Ending) (w' : World) : Prop := ∃ vg va g a p q, e = .returned (.tuple #[vg, va, .int .i64 p, .int .i64 q]) ∧ (GrV 0 w'.heap.size w' vg g ∧ g.edges.length ≤ 11 ∧ AuV 0 w'.heap.size w' va a ∧ Below w.heap.size w w')
def RchOut (w : World) (e : Ending) (w' : World) : Prop := ∃ vg va g a p, e = .returned (.tuple #[vg, va, .int .i64 p]) ∧ (GrV 0 w'.heap.size w' vg g ∧ g.edges.length ≤ 11 ∧ AuV 0 w'.heap.size w' va a ∧ Below w.heap.size w w')
set_option maxHeartbeats 8000000 in
theorem drawProductSteps_any (v : Value) (bs : List Int) (w : World) (hv : SlI 0 w.heap.size w cU 1 v bs) :
    Calls Try.prog 23 #[v] w (ProdOut w) := by
  have HV := Lib.hid hv
  have hb0 := ((Below.refl w.heap.size w).alloc (Nat.le_refl _) (.cells #[.slice none 0 0, .slice none 0 0] 38)).alloc (by simp) (.cells #[.int .i64 0, .slice none 0 0, .slice none 0 0] 27)
  have hb1 := (Blk.new w 38 #[.slice none 0 0, .slice none 0 0] _ rfl).alloc (.cells #[.int .i64 0, .slice none 0 0, .slice none 0 0] 27)
  have hb2 := Blk.new (w.alloc (.cells #[.slice none 0 0, .slice none 0 0] 38)) 27 #[.int .i64 0, .slice none 0 0, .slice none 0 0] (w.heap.size + 1) (by simp)
  have hs0 : ((w.alloc (.cells #[.slice none 0 0, .slice none 0 0] 38)).alloc (.cells #[.int .i64 0, .slice none 0 0, .slice none 0 0] 27)).heap.size = w.heap.size + 2 := by simp
  obtain ⟨A, n, c, rfl⟩ := hv.shape
  clear hv
  go_enter Try.func23, Try.ntmps23
  go_wp2_with fail
  refine (l1New_any _ bs _ ((HV.out.below hb0 (Nat.le_refl _)).mono (Nat.le_refl _) hb0.size)).mono ?_
  rintro e w1 ⟨b, rfl, hbl, hc1, hbw⟩
  have hr1 := hb1.keep hbw
  have hr2 := hb2.keep hbw
  have hb3 := below_trans hb0 hbw
  rw [hs0] at hbl
  clear hbw hb1 hb2 hb0 hs0 HV
  go_wp2_with fail
  refine (l14Pair_any b _ hc1).mono ?_
  rintro e w2 ⟨vg, va, g, a, rfl, hgv, he11, hav, hc2, ho2⟩
  have hlb := hc1.lt
  have hn1 := hgv.shape
  obtain ⟨A1, n1, c1, A2, n2, c2, rfl⟩ := hgv.shape
  clear hn1
  obtain ⟨A3, n3, c3, A4, n4, c4, rfl⟩ := hav.shape
  have hn1 := gr_len hgv
  have hn3 := auP_len hav
  have hs2 := ho2.size
  have hal := ((Below.refl w2.heap.size w2).alloc (Nat.le_refl _) (.cells #[.slice A1 n1 c1, .slice A2 n2 c2] 38)).alloc (by simp) (.cells #[.int .i64 a.start, .slice A3 n3 c3, .slice A4 n4 c4] 27)
  have bg := (Blk.new w2 38 #[.slice A1 n1 c1, .slice A2 n2 c2] _ rfl).alloc (.cells #[.int .i64 a.start, .slice A3 n3 c3, .slice A4 n4 c4] 27)
  have ba := Blk.new (w2.alloc (.cells #[.slice A1 n1 c1, .slice A2 n2 c2] 38)) 27 #[.int .i64 a.start, .slice A3 n3 c3, .slice A4 n4 c4] (w2.heap.size + 1) (by simp)
  obtain ⟨gq, hgq⟩ : ∃ gq, gq = w2.heap.size := ⟨_, rfl⟩
  have HP := Lib.hid (show PdR b w.heap.size gq (gq + 1) w ((w2.alloc (.cells #[.slice A1 n1 c1, .slice A2 n2 c2] 38)).alloc (.cells #[.int .i64 a.start, .slice A3 n3 c3, .slice A4 n4 c4] 27)) _ _ g _ _ a from
    ⟨(hr1.only ho2 (.inl (by omega))).keep hal, (hr2.only ho2 (.inl (by omega))).keep hal, hgq ▸ bg, hgq ▸ ba, (hgv.below hal (Nat.le_refl _)).mono (by omega) (by omega), (hav.below hal (Nat.le_refl _)).mono (by omega) (by omega), hc2.keep hal, below_trans (hb3.trans (ho2.below (B := w.heap.size) (by omega) hb3.size)) hal, rfl, he11, by omega⟩)
  clear hal bg ba hgv hav hc2 ho2 hr1 hr2 hb3 hc1 hs2 he11
  go_upto_region 3 with fail
  rw [← hgq]
  generalize ((w2.alloc (.cells #[.slice A1 n1 c1, .slice A2 n2 c2] 38)).alloc (.cells #[.int .i64 a.start, .slice A3 n3 c3, .slice A4 n4 c4] 27)) = W at *
  clear hgq hlb
  have x0 : W.cell? ⟨gq, 0, none⟩ = some (.slice A1 n1 c1) := HP.out.gbk.cell 0
  have x1 : W.cell? ⟨gq, 1, none⟩ = some (.slice A2 n2 c2) := HP.out.gbk.cell 1
  have y0 : W.cell? ⟨gq + 1, 0, none⟩ = some (.int .i64 a.start) := HP.out.abk.cell 0
  have y1 : W.cell? ⟨gq + 1, 1, none⟩ = some (.slice A3 n3 c3) := HP.out.abk.cell 1
  have y2 : W.cell? ⟨gq + 1, 2, none⟩ = some (.slice A4 n4 c4) := HP.out.abk.cell 2
  unfold maxLen at hn3
  go_wp2_with fail
  refine F_start 12 (fun w' => w'.cell? ⟨gq, 0, none⟩ = some (.slice A1 n1 c1) ∧ w'.cell? ⟨gq, 1, none⟩ = some (.slice A2 n2 c2) ∧ w'.cell? ⟨gq + 1, 0, none⟩ = some (.int .i64 a.start) ∧ w'.cell? ⟨gq + 1, 1, none⟩ = some (.slice A3 n3 c3) ∧ w'.cell? ⟨gq + 1, 2, none⟩ = some (.slice A4 n4 c4)) (by kernel_rfl) (by exact ⟨x0, x1, y0, y1, y2⟩) (fun hS inv => ?_)
  refine F_take (i := 0) (v := ?_) rfl (by kernel_rfl) (by kernel_rfl) (by kernel_rfl) (fun _ _ _ h => h) inv (Or.inl ⟨by rfl, ?_⟩) (by assumption) (fun invn => ?_)
  rotate_left
  · (intro w hSw; (try dsimp only at hSw); go_simp; try with_reducible rfl)
  try simp only [List.getElem_toArray, List.getElem_cons_zero, List.getElem_cons_succ, Act.put, List.setIfInBounds_toArray, List.set_cons_zero, List.set_cons_succ]
  clear inv
  have inv := invn
  clear invn
  refine F_take (i := 1) (v := ?_) rfl (by kernel_rfl) (by kernel_rfl) (by kernel_rfl) (fun _ _ _ h => h) inv (Or.inl ⟨by rfl, ?_⟩) (by assumption) (fun invn => ?_)
  rotate_left
  · (intro w hSw; (try dsimp only at hSw); go_simp; try with_reducible rfl)
  try simp only [List.getElem_toArray, List.getElem_cons_zero, List.getElem_cons_succ, Act.put, List.setIfInBounds_toArray, List.set_cons_zero, List.set_cons_succ]
  clear inv
  have inv := invn
  clear invn
  refine F_take (i := 2) (v := ?_) rfl (by kernel_rfl) (by kernel_rfl) (by kernel_rfl) (fun _ _ _ h => h) inv (Or.inl ⟨by rfl, ?_⟩) (by assumption) (fun invn => ?_)
  rotate_left
  · (intro w hSw; (try dsimp only at hSw); go_simp; try with_reducible rfl)
  try simp only [List.getElem_toArray, List.getElem_cons_zero, List.getElem_cons_succ, Act.put, List.setIfInBounds_toArray, List.set_cons_zero, List.set_cons_succ]
  clear inv
  have inv := invn
  clear invn
  refine F_take (i := 3) (v := ?_) rfl (by kernel_rfl) (by kernel_rfl) (by kernel_rfl) (fun _ _ _ h => h) inv (Or.inl ⟨by rfl, ?_⟩) (by assumption) (fun invn => ?_)
  rotate_left
  · (intro w hSw; (try dsimp only at hSw); go_simp; try with_reducible rfl)
  try simp only [List.getElem_toArray, List.getElem_cons_zero, List.getElem_cons_succ, Act.put, List.setIfInBounds_toArray, List.set_cons_zero, List.set_cons_succ]
  clear inv
  have inv := invn
  clear invn
  refine F_take (i := 5) (v := ?_) rfl (by kernel_rfl) (by kernel_rfl) (by kernel_rfl) (fun _ _ _ h => h) inv (Or.inl ⟨by rfl, ?_⟩) (by assumption) (fun invn => ?_)
  rotate_left
  · (intro w hSw; (try dsimp only at hSw); go_simp; try with_reducible rfl)
  try simp only [List.getElem_toArray, List.getElem_cons_zero, List.getElem_cons_succ, Act.put, List.setIfInBounds_toArray, List.set_cons_zero, List.set_cons_succ]
  clear inv
  have inv := invn
  clear invn
  refine F_take (i := 6) (v := ?_) rfl (by kernel_rfl) (by kernel_rfl) (by kernel_rfl) (fun _ _ _ h => h) inv (Or.inl ⟨by rfl, ?_⟩) (by assumption) (fun invn => ?_)
  rotate_left
  · (intro w hSw; (try dsimp only at hSw); go_simp; try with_reducible rfl)
  try simp only [List.getElem_toArray, List.getElem_cons_zero, List.getElem_cons_succ, Act.put, List.setIfInBounds_toArray, List.set_cons_zero, List.set_cons_succ]
  clear inv
  have inv := invn
  clear invn
  refine F_take (i := 7) (v := ?_) rfl (by kernel_rfl) (by kernel_rfl) (by kernel_rfl) (fun _ _ _ h => h) inv (Or.inl ⟨by rfl, ?_⟩) (by assumption) (fun invn => ?_)
  rotate_left
  · (intro w hSw; (try dsimp only at hSw); go_simp; try with_reducible rfl)
  try simp only [List.getElem_toArray, List.getElem_cons_zero, List.getElem_cons_succ, Act.put, List.setIfInBounds_toArray, List.set_cons_zero, List.set_cons_succ]
  clear inv
  have inv := invn
  clear invn
  refine F_take (i := 8) (v := ?_) rfl (by kernel_rfl) (by kernel_rfl) (by kernel_rfl) (fun _ _ _ h => h) inv (Or.inl ⟨by rfl, ?_⟩) (by assumption) (fun invn => ?_)
  rotate_left
  · (intro w hSw; (try dsimp only at hSw); go_simp; try with_reducible rfl)
  try simp only [List.getElem_toArray, List.getElem_cons_zero, List.getElem_cons_succ, Act.put, List.setIfInBounds_toArray, List.set_cons_zero, List.set_cons_succ]
  clear inv
  have inv := invn
  clear invn
  refine F_take (i := 9) (v := ?_) rfl (by kernel_rfl) (by kernel_rfl) (by kernel_rfl) (fun _ _ _ h => h) inv (Or.inl ⟨by rfl, ?_⟩) (by assumption) (fun invn => ?_)
  rotate_left
  · (intro w hSw; (try dsimp only at hSw); go_simp; try with_reducible rfl)
  try simp only [List.getElem_toArray, List.getElem_cons_zero, List.getElem_cons_succ, Act.put, List.setIfInBounds_toArray, List.set_cons_zero, List.set_cons_succ]
  clear inv
  have inv := invn
  clear invn
  have HPd := Lib.hid HP.out.drew
  clear HP x0 x1 y0 y1 y2
  refine F_one (i := 4) (by kernel_rfl) rfl rfl (by omega) inv (fun K hK => ?_)
  try simp only [List.getElem_toArray, List.getElem_cons_zero, List.getElem_cons_succ]
  go_simp
  refine (l4Node_any b _ _ _ _ _ _ _ HPd.out.cur hn1).mono ?_
  rintro e w4 ⟨p, rfl, hc4, ho4⟩
  have HP4 := Lib.hid (HPd.out.step ho4 hc4)
  clear ho4 hc4 HPd
  refine hK.out _ _ (⟨HP4.out.gbk.cell 0, HP4.out.gbk.cell 1, HP4.out.abk.cell 0, HP4.out.abk.cell 1, HP4.out.abk.cell 2⟩) (fun hSn invn => ?_)
  try simp only [List.getElem_toArray, List.getElem_cons_zero, List.getElem_cons_succ, Act.put, List.setIfInBounds_toArray, List.set_cons_zero, List.set_cons_succ]
  clear hK K inv hS
  have inv := invn
  have hS := hSn
  clear invn hSn
  refine F_one (i := 10) (by kernel_rfl) rfl rfl (by omega) inv (fun K hK => ?_)
  try simp only [List.getElem_toArray, List.getElem_cons_zero, List.getElem_cons_succ]
  go_simp
  refine (l1Below_any b _ _ HP4.out.cur).mono ?_
  rintro e w5 ⟨q', rfl, -, hc5, ho5⟩
  have HP5 := Lib.hid (HP4.out.step ho5 hc5)
  clear ho5 hc5 HP4
  refine hK.out _ _ (⟨HP5.out.gbk.cell 0, HP5.out.gbk.cell 1, HP5.out.abk.cell 0, HP5.out.abk.cell 1, HP5.out.abk.cell 2⟩) (fun hSn invn => ?_)
  try simp only [List.getElem_toArray, List.getElem_cons_zero, List.getElem_cons_succ, Act.put, List.setIfInBounds_toArray, List.set_cons_zero, List.set_cons_succ]
  clear hK K inv hS
  have inv := invn
  have hS := hSn
  clear invn hSn
  have z0 : w5.cell? ⟨w.heap.size, 0, none⟩ = some (.slice none 0 0) := HP5.out.res1.cell 0
  have z1 : w5.cell? ⟨w.heap.size, 1, none⟩ = some (.slice none 0 0) := HP5.out.res1.cell 1
  have z2 : w5.cell? ⟨w.heap.size + 1, 0, none⟩ = some (.int .i64 0) := HP5.out.res2.cell 0
  have z3 : w5.cell? ⟨w.heap.size + 1, 1, none⟩ = some (.slice none 0 0) := HP5.out.res2.cell 1
  have z4 : w5.cell? ⟨w.heap.size + 1, 2, none⟩ = some (.slice none 0 0) := HP5.out.res2.cell 2
  have v0 := HP5.out.res1.frozen 0
  have v1 := HP5.out.res1.frozen 1
  have v2 := HP5.out.res2.frozen 0
  have v3 := HP5.out.res2.frozen 1
  have v4 := HP5.out.res2.frozen 2
  have hlr := HP5.out.res1.lt
  have hls := HP5.out.res2.lt
  have HQ := Lib.hid (HP5.out.put (.slice A1 n1 c1) (.slice A2 n2 c2))
  refine F_one (i := 11) (by kernel_rfl) rfl rfl (by omega) inv (fun K hK => ?_)
  try simp only [List.getElem_toArray, List.getElem_cons_zero, List.getElem_cons_succ]
  go_simp
  refine hK.out _ _ (⟨HQ.out.1.cell 0, HQ.out.1.cell 1, HQ.out.2.1.cell 0, HQ.out.2.1.cell 1, HQ.out.2.1.cell 2⟩) (fun hSn invn => ?_)
  try simp only [List.getElem_toArray, List.getElem_cons_zero, List.getElem_cons_succ, Act.put, List.setIfInBounds_toArray, List.set_cons_zero, List.set_cons_succ]
  clear hK K inv hS
  have inv := invn
  have hS := hSn
  clear invn hSn
  refine F_tail (i := 12) (by kernel_rfl) rfl rfl (by omega) (fun K hK => ?_)
  try simp only [List.getElem_toArray, List.getElem_cons_zero, List.getElem_cons_succ]
  go_simp
  refine hK.out _ _ ?_
  try simp only [List.getElem_toArray, List.getElem_cons_zero, List.getElem_cons_succ, Act.put, List.setIfInBounds_toArray, List.set_cons_zero, List.set_cons_succ]
  clear hK K
  try clear inv hS
  refine F_tail (i := 13) (by kernel_rfl) rfl rfl (by omega) (fun K hK => ?_)
  try simp only [List.getElem_toArray, List.getElem_cons_zero, List.getElem_cons_succ]
  go_simp
  refine hK.out _ _ ?_
  try simp only [List.getElem_toArray, List.getElem_cons_zero, List.getElem_cons_succ, Act.put, List.setIfInBounds_toArray, List.set_cons_zero, List.set_cons_succ]
  clear hK K
  try clear inv hS
  refine F_last (i := 14) (by kernel_rfl) rfl rfl (by omega) (by kernel_rfl) (fun K hK => ?_)
  go_simp
  refine hK _ _ ?_
  clear hK K
  go_wp2_with fail
  have HD := HP5.out.done (.slice A1 n1 c1) (.slice A2 n2 c2) (.int .i64 a.start) (.slice A3 n3 c3) (.slice A4 n4 c4)
  exact bodyPost_ret (v := .tuple #[.agg #[.slice A1 n1 c1, .slice A2 n2 c2], .agg #[.int .i64 a.start, .slice A3 n3 c3, .slice A4 n4 c4], .int .i64 p, .int .i64 q']) (by simp [results, Try.results23, go_sem, z0, z1, z2, z3, z4, v0, v1, v2, v3, v4, hlr, hls]) rfl ⟨_, _, g, a, _, _, rfl, HD⟩
set_option maxHeartbeats 8000000 in
theorem drawReachableProduct_any (v : Value) (bs : List Int) (w : World) (hv : SlI 0 w.heap.size w cU 1 v bs) :
    Calls Try.prog 30 #[v] w (RchOut w) := by
  have HV := Lib.hid hv
  have hb0 := ((Below.refl w.heap.size w).alloc (Nat.le_refl _) (.cells #[.slice none 0 0, .slice none 0 0] 38)).alloc (by simp) (.cells #[.int .i64 0, .slice none 0 0, .slice none 0 0] 27)
  have hb1 := (Blk.new w 38 #[.slice none 0 0, .slice none 0 0] _ rfl).alloc (.cells #[.int .i64 0, .slice none 0 0, .slice none 0 0] 27)
  have hb2 := Blk.new (w.alloc (.cells #[.slice none 0 0, .slice none 0 0] 38)) 27 #[.int .i64 0, .slice none 0 0, .slice none 0 0] (w.heap.size + 1) (by simp)
  have hs0 : ((w.alloc (.cells #[.slice none 0 0, .slice none 0 0] 38)).alloc (.cells #[.int .i64 0, .slice none 0 0, .slice none 0 0] 27)).heap.size = w.heap.size + 2 := by simp
  obtain ⟨A, n, c, rfl⟩ := hv.shape
  clear hv
  go_enter Try.func30, Try.ntmps30
  go_wp2_with fail
  refine (l1New_any _ bs _ ((HV.out.below hb0 (Nat.le_refl _)).mono (Nat.le_refl _) hb0.size)).mono ?_
  rintro e w1 ⟨b, rfl, hbl, hc1, hbw⟩
  have hr1 := hb1.keep hbw
  have hr2 := hb2.keep hbw
  have hb3 := below_trans hb0 hbw
  rw [hs0] at hbl
  clear hbw hb1 hb2 hb0 hs0 HV
  go_wp2_with fail
  refine (l14Pair_any b _ hc1).mono ?_
  rintro e w2 ⟨vg, va, g, a, rfl, hgv, he11, hav, hc2, ho2⟩
  have hlb := hc1.lt
  have hn1 := hgv.shape
  obtain ⟨A1, n1, c1, A2, n2, c2, rfl⟩ := hgv.shape
  clear hn1
  obtain ⟨A3, n3, c3, A4, n4, c4, rfl⟩ := hav.shape
  have hn1 := gr_len hgv
  have hn3 := auP_len hav
  have hs2 := ho2.size
  have hal := ((Below.refl w2.heap.size w2).alloc (Nat.le_refl _) (.cells #[.slice A1 n1 c1, .slice A2 n2 c2] 38)).alloc (by simp) (.cells #[.int .i64 a.start, .slice A3 n3 c3, .slice A4 n4 c4] 27)
  have bg := (Blk.new w2 38 #[.slice A1 n1 c1, .slice A2 n2 c2] _ rfl).alloc (.cells #[.int .i64 a.start, .slice A3 n3 c3, .slice A4 n4 c4] 27)
  have ba := Blk.new (w2.alloc (.cells #[.slice A1 n1 c1, .slice A2 n2 c2] 38)) 27 #[.int .i64 a.start, .slice A3 n3 c3, .slice A4 n4 c4] (w2.heap.size + 1) (by simp)
  obtain ⟨gq, hgq⟩ : ∃ gq, gq = w2.heap.size := ⟨_, rfl⟩
  have HP := Lib.hid (show PdR b w.heap.size gq (gq + 1) w ((w2.alloc (.cells #[.slice A1 n1 c1, .slice A2 n2 c2] 38)).alloc (.cells #[.int .i64 a.start, .slice A3 n3 c3, .slice A4 n4 c4] 27)) _ _ g _ _ a from
    ⟨(hr1.only ho2 (.inl (by omega))).keep hal, (hr2.only ho2 (.inl (by omega))).keep hal, hgq ▸ bg, hgq ▸ ba, (hgv.below hal (Nat.le_refl _)).mono (by omega) (by omega), (hav.below hal (Nat.le_refl _)).mono (by omega) (by omega), hc2.keep hal, below_trans (hb3.trans (ho2.below (B := w.heap.size) (by omega) hb3.size)) hal, rfl, he11, by omega⟩)
  clear hal bg ba hgv hav hc2 ho2 hr1 hr2 hb3 hc1 hs2 he11
  go_upto_region 3 with fail
  rw [← hgq]
  generalize ((w2.alloc (.cells #[.slice A1 n1 c1, .slice A2 n2 c2] 38)).alloc (.cells #[.int .i64 a.start, .slice A3 n3 c3, .slice A4 n4 c4] 27)) = W at *
  clear hgq hlb
  have x0 : W.cell? ⟨gq, 0, none⟩ = some (.slice A1 n1 c1) := HP.out.gbk.cell 0
  have x1 : W.cell? ⟨gq, 1, none⟩ = some (.slice A2 n2 c2) := HP.out.gbk.cell 1
  have y0 : W.cell? ⟨gq + 1, 0, none⟩ = some (.int .i64 a.start) := HP.out.abk.cell 0
  have y1 : W.cell? ⟨gq + 1, 1, none⟩ = some (.slice A3 n3 c3) := HP.out.abk.cell 1
  have y2 : W.cell? ⟨gq + 1, 2, none⟩ = some (.slice A4 n4 c4) := HP.out.abk.cell 2
  go_wp2_with fail
  refine F_start 6 (fun w' => w'.cell? ⟨gq, 0, none⟩ = some (.slice A1 n1 c1) ∧ w'.cell? ⟨gq, 1, none⟩ = some (.slice A2 n2 c2) ∧ w'.cell? ⟨gq + 1, 0, none⟩ = some (.int .i64 a.start) ∧ w'.cell? ⟨gq + 1, 1, none⟩ = some (.slice A3 n3 c3) ∧ w'.cell? ⟨gq + 1, 2, none⟩ = some (.slice A4 n4 c4)) (by kernel_rfl) (by exact ⟨x0, x1, y0, y1, y2⟩) (fun hS inv => ?_)
  refine F_take (i := 0) (v := ?_) rfl (by kernel_rfl) (by kernel_rfl) (by kernel_rfl) (fun _ _ _ h => h) inv (Or.inl ⟨by rfl, ?_⟩) (by assumption) (fun invn => ?_)
  rotate_left
  · (intro w hSw; (try dsimp only at hSw); go_simp; try with_reducible rfl)
  try simp only [List.getElem_toArray, List.getElem_cons_zero, List.getElem_cons_succ, Act.put, List.setIfInBounds_toArray, List.set_cons_zero, List.set_cons_succ]
  clear inv
  have inv := invn
  clear invn
  refine F_take (i := 1) (v := ?_) rfl (by kernel_rfl) (by kernel_rfl) (by kernel_rfl) (fun _ _ _ h => h) inv (Or.inl ⟨by rfl, ?_⟩) (by assumption) (fun invn => ?_)
  rotate_left
  · (intro w hSw; (try dsimp only at hSw); go_simp; try with_reducible rfl)
  try simp only [List.getElem_toArray, List.getElem_cons_zero, List.getElem_cons_succ, Act.put, List.setIfInBounds_toArray, List.set_cons_zero, List.set_cons_succ]
  clear inv
  have inv := invn
  clear invn
  refine F_take (i := 2) (v := ?_) rfl (by kernel_rfl) (by kernel_rfl) (by kernel_rfl) (fun _ _ _ h => h) inv (Or.inl ⟨by rfl, ?_⟩) (by assumption) (fun invn => ?_)
  rotate_left
  · (intro w hSw; (try dsimp only at hSw); go_simp; try with_reducible rfl)
  try simp only [List.getElem_toArray, List.getElem_cons_zero, List.getElem_cons_succ, Act.put, List.setIfInBounds_toArray, List.set_cons_zero, List.set_cons_succ]
  clear inv
  have inv := invn
  clear invn
  refine F_take (i := 3) (v := ?_) rfl (by kernel_rfl) (by kernel_rfl) (by kernel_rfl) (fun _ _ _ h => h) inv (Or.inl ⟨by rfl, ?_⟩) (by assumption) (fun invn => ?_)
  rotate_left
  · (intro w hSw; (try dsimp only at hSw); go_simp; try with_reducible rfl)
  try simp only [List.getElem_toArray, List.getElem_cons_zero, List.getElem_cons_succ, Act.put, List.setIfInBounds_toArray, List.set_cons_zero, List.set_cons_succ]
  clear inv
  have inv := invn
  clear invn
  have HPd := Lib.hid HP.out.drew
  clear HP x0 x1 y0 y1 y2
  refine F_one (i := 4) (by kernel_rfl) rfl rfl (by omega) inv (fun K hK => ?_)
  try simp only [List.getElem_toArray, List.getElem_cons_zero, List.getElem_cons_succ]
  go_simp
  refine (l4Node_any b _ _ _ _ _ _ _ HPd.out.cur hn1).mono ?_
  rintro e w5 ⟨p, rfl, hc4, ho4⟩
  have HP5 := Lib.hid (HPd.out.step ho4 hc4)
  clear ho4 hc4 HPd
  refine hK.out _ _ (⟨HP5.out.gbk.cell 0, HP5.out.gbk.cell 1, HP5.out.abk.cell 0, HP5.out.abk.cell 1, HP5.out.abk.cell 2⟩) (fun hSn invn => ?_)
  try simp only [List.getElem_toArray, List.getElem_cons_zero, List.getElem_cons_succ, Act.put, List.setIfInBounds_toArray, List.set_cons_zero, List.set_cons_succ]
  clear hK K inv hS
  have inv := invn
  have hS := hSn
  clear invn hSn
  have z0 : w5.cell? ⟨w.heap.size, 0, none⟩ = some (.slice none 0 0) := HP5.out.res1.cell 0
  have z1 : w5.cell? ⟨w.heap.size, 1, none⟩ = some (.slice none 0 0) := HP5.out.res1.cell 1
  have z2 : w5.cell? ⟨w.heap.size + 1, 0, none⟩ = some (.int .i64 0) := HP5.out.res2.cell 0
  have z3 : w5.cell? ⟨w.heap.size + 1, 1, none⟩ = some (.slice none 0 0) := HP5.out.res2.cell 1
  have z4 : w5.cell? ⟨w.heap.size + 1, 2, none⟩ = some (.slice none 0 0) := HP5.out.res2.cell 2
  have v0 := HP5.out.res1.frozen 0
  have v1 := HP5.out.res1.frozen 1
  have v2 := HP5.out.res2.frozen 0
  have v3 := HP5.out.res2.frozen 1
  have v4 := HP5.out.res2.frozen 2
  have hlr := HP5.out.res1.lt
  have hls := HP5.out.res2.lt
  have HQ := Lib.hid (HP5.out.put (.slice A1 n1 c1) (.slice A2 n2 c2))
  refine F_one (i := 5) (by kernel_rfl) rfl rfl (by omega) inv (fun K hK => ?_)
  try simp only [List.getElem_toArray, List.getElem_cons_zero, List.getElem_cons_succ]
  go_simp
  refine hK.out _ _ (⟨HQ.out.1.cell 0, HQ.out.1.cell 1, HQ.out.2.1.cell 0, HQ.out.2.1.cell 1, HQ.out.2.1.cell 2⟩) (fun hSn invn => ?_)
  try simp only [List.getElem_toArray, List.getElem_cons_zero, List.getElem_cons_succ, Act.put, List.setIfInBounds_toArray, List.set_cons_zero, List.set_cons_succ]
  clear hK K inv hS
  have inv := invn
  have hS := hSn
  clear invn hSn
  refine F_tail (i := 6) (by kernel_rfl) rfl rfl (by omega) (fun K hK => ?_)
  try simp only [List.getElem_toArray, List.getElem_cons_zero, List.getElem_cons_succ]
  go_simp
  refine hK.out _ _ ?_
  try simp only [List.getElem_toArray, List.getElem_cons_zero, List.getElem_cons_succ, Act.put, List.setIfInBounds_toArray, List.set_cons_zero, List.set_cons_succ]
  clear hK K
  try clear inv hS
  refine F_last (i := 7) (by kernel_rfl) rfl rfl (by omega) (by kernel_rfl) (fun K hK => ?_)
  go_simp
  refine hK _ _ ?_
  clear hK K
  go_wp2_with fail
  have HD := HP5.out.done (.slice A1 n1 c1) (.slice A2 n2 c2) (.int .i64 a.start) (.slice A3 n3 c3) (.slice A4 n4 c4)
  exact bodyPost_ret (v := .tuple #[.agg #[.slice A1 n1 c1, .slice A2 n2 c2], .agg #[.int .i64 a.start, .slice A3 n3 c3, .slice A4 n4 c4], .int .i64 p]) (by simp [results, Try.results30, go_sem, z0, z1, z2, z3, z4, v0, v1, v2, v3, v4, hlr, hls]) rfl ⟨_, _, g, a, _, rfl, HD⟩
end Go.Proofs.Ytallglnmeeahiaa

/- Plain: the nodes of a walk and when it is one of a graph. -/
namespace Go.Proofs.Ytallglnmeeahiaa
set_option linter.unusedVariables false
set_option linter.unusedSimpArgs false

def nodesL (g : Gr) (k : Wk) : List Int := k.1 :: k.2.map (stepTo g)
theorem nodesL_len (g : Gr) (k : Wk) : (nodesL g k).length = k.2.length + 1 := by simp [nodesL]
theorem nodesL_succ {g : Gr} {k : Wk} {i : Nat} {s : St} (h : k.2[i]? = some s) : (nodesL g k).take (i + 1 + 1) = (nodesL g k).take (i + 1) ++ [stepTo g s] := by
  refine take_snoc ?_
  rw [nodesL, List.getElem?_cons_succ, List.getElem?_map, h]; rfl
theorem nodesL_next {g : Gr} {k : Wk} {i : Nat} {s : St} (h : k.2[i]? = some s) : (nodesL g k)[i + 1]? = some (stepTo g s) := by rw [nodesL, List.getElem?_cons_succ, List.getElem?_map, h]; rfl
/-- the step leads from the node that the walk is at -/
def linkAt (g : Gr) (k : Wk) (i : Nat) : Bool := stepFrom g (k.2.getD i (0, false)) == (nodesL g k).getD i 0
def walkOk (g : Gr) (k : Wk) : Bool := grOk g && wi k.1 0 ((g.vals.length : Int) - 1) && decide (k.2.length ≤ 60) && (List.range k.2.length).all (linkAt g k)
/-- the nodes of a walk of the graph; none of another -/
def nodesOut (g : Gr) (k : Wk) : List Int := if walkOk g k = true then nodesL g k else []
theorem nodesOut_no {g : Gr} {k : Wk} (h : walkOk g k = false) : nodesOut g k = [] := by rw [nodesOut, h]; rfl
theorem nodesOut_yes {g : Gr} {k : Wk} (h : walkOk g k = true) : nodesOut g k = nodesL g k := by rw [nodesOut, h]; rfl
theorem linkAt_eq {g : Gr} {k : Wk} {i : Nat} {s : St} {x : Int} (h : k.2[i]? = some s) (hx : (nodesL g k)[i]? = some x) : linkAt g k i = (stepFrom g s == x) := by
  rw [linkAt, List.getD_eq_getElem?_getD, h, List.getD_eq_getElem?_getD, hx]; rfl
theorem walkOk_long {g : Gr} {k : Wk} (h : 60 < k.2.length) : walkOk g k = false := by
  rw [walkOk, show decide (k.2.length ≤ 60) = false by simp; omega]
  simp
def walkAllowed (g : Gr) (c : Int) (k : Wk) : Bool := k.2.all (stepAllowed g c) && wi c 0 4 && walkOk g k
end Go.Proofs.Ytallglnmeeahiaa

/- Plain: the sets of states along a walk, and whether a walk matches. -/
namespace Go.Proofs.Ytallglnmeeahiaa
set_option linter.unusedVariables false
set_option linter.unusedSimpArgs false
/-- node i of a walk -/
def nodeAt (g : Gr) (k : Wk) (i : Nat) : Nat := ((nodesL g k).getD i 0).toNat
def letAt (g : Gr) (k : Wk) (i : Nat) : Nat := (stepLetter g (k.2.getD i (0, false))).toNat
/-- the states behind i steps -/
def setAt (g : Gr) (a : Au) (k : Wk) : Nat → Nat
  | 0 => bit a.start.toNat
  | i + 1 => aft a (setAt g a k i) (valAt g (nodeAt g k i)) (letAt g k i)
def setsL (g : Gr) (a : Au) (k : Wk) (n : Nat) : List Nat := (List.range n).map (setAt g a k)
theorem setsL_len (g : Gr) (a : Au) (k : Wk) (n : Nat) : (setsL g a k n).length = n := by simp [setsL]
theorem setsL_snoc (g : Gr) (a : Au) (k : Wk) (n : Nat) : setsL g a k (n + 1) = setsL g a k n ++ [setAt g a k n] := by simp [setsL, List.range_succ]
theorem setsL_at {g : Gr} {a : Au} {k : Wk} {n i : Nat} (h : i < n) : (setsL g a k n)[i]? = some (setAt g a k i) := by simp [setsL, h]
theorem setAt_lt {g : Gr} {a : Au} (ha : auOk a = true) (k : Wk) (i : Nat) : setAt g a k i < 2 ^ a.accept.length := by
  cases i with
  | zero => exact bit_lt (by have := (auOk_iff.1 ha).2.1; omega)
  | succ i => exact aft_lt ha _ _ _
theorem walkOk_parts {g : Gr} {k : Wk} (h : walkOk g k = true) : GrOk g ∧ (0 ≤ k.1 ∧ k.1 ≤ (g.vals.length : Int) - 1) ∧ k.2.length ≤ 60 ∧ ∀ i, i < k.2.length → linkAt g k i = true := by
  simp only [walkOk, Bool.and_eq_true, wi_iff, decide_eq_true_eq, List.all_eq_true, List.mem_range] at h
  exact ⟨grOk_iff.1 h.1.1.1, h.1.1.2, h.1.2, h.2⟩
theorem stepTo_of {g : Gr} {s : St} {e : Ed} (h : stepEd g s.1 = some e) : stepTo g s = arcTo s.2 e := by
  unfold stepTo stepFrom arcTo
  simp only [h]
  cases s.2 <;> rfl
theorem stepFrom_of {g : Gr} {s : St} {e : Ed} (h : stepEd g s.1 = some e) : stepFrom g s = arcTo (!s.2) e := by
  unfold stepFrom arcTo
  simp only [h]
  cases s.2 <;> rfl
theorem stepLetter_of {g : Gr} {s : St} {e : Ed} (h : stepEd g s.1 = some e) : stepLetter g s = arcLetter s.2 e := by
  unfold stepLetter arcLetter
  simp only [h]
theorem nodeAt_at {g : Gr} {k : Wk} {i : Nat} (h : i ≤ k.2.length) : (nodesL g k)[i]? = some ((nodesL g k).getD i 0) := by
  rw [List.getD_eq_getElem?_getD, List.getElem?_eq_getElem (by rw [nodesL_len]; omega)]; rfl
/-- the nodes of a walk of the graph are nodes of the graph, and its steps are edges of it -/
theorem walk_parts {g : Gr} {k : Wk} (h : walkOk g k = true) : ∀ {i : Nat}, i ≤ k.2.length → (0 ≤ (nodesL g k).getD i 0 ∧ (nodesL g k).getD i 0 ≤ (g.vals.length : Int) - 1) ∧
    (i < k.2.length → ∃ s e, k.2[i]? = some s ∧ stepEd g s.1 = some e ∧ stepFrom g s = (nodesL g k).getD i 0 ∧ stepTo g s = (nodesL g k).getD (i + 1) 0) := by
  obtain ⟨hg, hk, -, hl⟩ := walkOk_parts h
  have step : ∀ i, i < k.2.length → 0 ≤ (nodesL g k).getD i 0 → ∃ s e, k.2[i]? = some s ∧ stepEd g s.1 = some e ∧ stepFrom g s = (nodesL g k).getD i 0 ∧ stepTo g s = (nodesL g k).getD (i + 1) 0 := by
    intro i hi h0
    have hs : k.2[i]? = some k.2[i] := List.getElem?_eq_getElem hi
    generalize k.2[i] = s at hs
    have hlk := hl i hi
    rw [linkAt_eq hs (nodeAt_at (by omega)), beq_iff_eq] at hlk
    have hnx := nodesL_next (g := g) hs
    have hnx2 := nodeAt_at (g := g) (k := k) (i := i + 1) (by omega)
    rw [hnx] at hnx2
    cases he : stepEd g s.1 with
    | none =>
      have := stepFrom_neg.2 he
      omega
    | some e => exact ⟨s, e, hs, he, hlk, by injection hnx2⟩
  intro i
  induction i with
  | zero => exact fun _ => ⟨hk, fun hi => step 0 hi hk.1⟩
  | succ i ih =>
    intro hi
    obtain ⟨hr, hst⟩ := ih (by omega)
    obtain ⟨s, e, hs, he, hf, ht⟩ := hst (by omega)
    have hrange : 0 ≤ stepTo g s ∧ stepTo g s ≤ (g.vals.length : Int) - 1 := by
      rw [stepTo_of he]
      obtain ⟨_, hm, _⟩ := stepEd_ok he
      have := hg.edges e hm
      unfold arcTo
      split <;> omega
    rw [ht] at hrange
    exact ⟨hrange, fun hi2 => step (i + 1) hi2 hrange.1⟩
theorem nodeAt_lt {g : Gr} {k : Wk} (h : walkOk g k = true) {i : Nat} (hi : i ≤ k.2.length) : (nodesL g k)[i]? = some (nodeAt g k i : Int) ∧ nodeAt g k i < g.vals.length := by
  have h1 := (walk_parts h hi).1
  refine ⟨?_, ?_⟩
  · rw [nodeAt_at hi, nodeAt, Int.toNat_of_nonneg h1.1]
  · unfold nodeAt; omega
/-- step i: its edge, its letter, the node behind it -/
theorem walk_step {g : Gr} {k : Wk} (h : walkOk g k = true) {i : Nat} (hi : i < k.2.length) : ∃ s e, k.2[i]? = some s ∧ stepEd g s.1 = some e ∧ arcTo s.2 e = (nodeAt g k (i + 1) : Int) ∧ arcLetter s.2 e = (letAt g k i : Int) ∧ stepLetter g s = (letAt g k i : Int) ∧ letAt g k i < 6 := by
  obtain ⟨s, e, hs, he, -, ht⟩ := (walk_parts h (Nat.le_of_lt hi)).2 hi
  obtain ⟨hg, hm, _⟩ := stepEd_ok he
  have hl := hg.edges e hm
  have h1 := (walk_parts h (show i + 1 ≤ k.2.length from hi)).1
  have hsd : k.2.getD i (0, false) = s := by rw [List.getD_eq_getElem?_getD, hs]; rfl
  have hr : 0 ≤ arcLetter s.2 e ∧ arcLetter s.2 e ≤ 5 := by
    unfold arcLetter
    split <;> omega
  have hla : (letAt g k i : Int) = arcLetter s.2 e := by rw [letAt, hsd, stepLetter_of he, Int.toNat_of_nonneg hr.1]
  refine ⟨s, e, hs, he, ?_, hla.symm, by rw [stepLetter_of he, hla], by omega⟩
  rw [← stepTo_of he, ht, nodeAt, Int.toNat_of_nonneg h1.1]
/-! ### Whether a walk matches -/
def walkEnd (g : Gr) (k : Wk) : Int := if walkOk g k = true then (nodeAt g k k.2.length : Int) else -1
def matchB (g : Gr) (a : Au) (k : Wk) : Bool := (walkOk g k && auOk a) && acc a (setAt g a k k.2.length) (valAt g (nodeAt g k k.2.length))
def isWit (g : Gr) (a : Au) (x y : Int) (k : Wk) : Bool := (k.1 == x && walkEnd g k == y) && matchB g a k
def alongS (g : Gr) (a : Au) (k : Wk) : List Nat := if (walkOk g k && auOk a) = true then setsL g a k (k.2.length + 1) else []
def alongN (g : Gr) (a : Au) (k : Wk) : List Int := if (walkOk g k && auOk a) = true then nodesL g k else []
end Go.Proofs.Ytallglnmeeahiaa

/- The program's functions on automata. -/
namespace Go.Proofs.Ytallglnmeeahiaa
set_option linter.unusedVariables false
set_option linter.unusedSimpArgs false
open Go.ChangeShapes Go.WideShapes Go.ChangeAt Go.RowKit
attribute [local go_sem] ext_cell ext_frozen ext_lt ext_lt1 ext_lt2 ext_lt3 ltn2 ltn3 ltn13 lts1 lts2 lts3

theorem within_any (n a b : Int) (w : World) : Calls Try.prog 39 #[.int .i64 n, .int .i64 a, .int .i64 b] w fun e w' => e = .returned (.bool (wi n a b)) ∧ w' = w := by
  unfold wi
  by_cases h1 : a ≤ n
  · have e1 : decide (a ≤ n) = true := by simpa using h1
    by_cases h2 : n ≤ b
    · go_enter Try.func39, Try.ntmps39
      go_wp2
      go_ret
      exact ⟨by simp [h1, h2], rfl⟩
    · go_enter Try.func39, Try.ntmps39
      go_wp2
      go_ret
      exact ⟨by simp [h1]; try omega, rfl⟩
  · have e1 : decide (a ≤ n) = false := by simpa using h1
    go_enter Try.func39, Try.ntmps39
    go_wp2
    go_ret
    exact ⟨by simp [h1]; try omega, rfl⟩

set_option maxHeartbeats 1000000 in
theorem implValidAutomaton (v : Value) (a : Au) (w : World) (hv : AuV 0 w.heap.size w v a) :
    Calls Try.prog 71 #[v] w fun e w' => e = .returned (.bool (auOk a)) ∧ Below w.heap.size w w' := by
  obtain ⟨ac, nx, rfl, ⟨A1, c1, rfl, hl1, hm1, -⟩, us, ⟨A2, c2, rfl, hl2, hm2, hx2⟩, hul, hrows⟩ := hv
  rw [hul] at hl2 ⊢
  have HU := Lib.hid hul
  clear hul
  unfold maxLen at hm1 hm2
  have hb0 : Below w.heap.size w (w.alloc (.cells #[.int .i64 a.start, .slice A1 a.accept.length c1, .slice A2 a.next.length c2] 27)) := (Below.refl _ _).alloc (Nat.le_refl _) _
  have HW := Lib.hid within_any
  by_cases g1 : wi a.accept.length 1 12 = true
  · by_cases g2 : wi a.start 0 ((a.accept.length : Int) - 1) = true
    · by_cases g3 : a.next.length = a.accept.length
      · have HG3 := Lib.hid g3
        have g3' : ((a.next.length : Int) != (a.accept.length : Int)) = false := by simp; omega
        have hr : auOk a = a.next.all (rowOk a.accept.length) := by simp [auOk, g1, g2, g3]
        have HR := Lib.hid hr
        clear hr g3
        obtain ⟨hn1, hn2⟩ := wi_iff.1 g1
        go_enter Try.func71, Try.ntmps71
        go_wp2_with (go_at_call 39; refine (HW.out _ _ _ _).mono ?_; rintro e w' ⟨rfl, rfl⟩)
        go_loop [32] (fun ii => ∃ i : Nat, i ≤ a.next.length ∧ ii = .int .i64 i ∧ (a.next.take i).all (rowOk a.accept.length) = true) (fun ii => a.next.length - (intOf ii).toNat)
        case atStart => exact ⟨0, Nat.zero_le _, rfl, rfl⟩
        case round =>
          obtain ⟨i, hi, rfl, hall⟩ := hrel
          have HA := Lib.hid hall
          clear hall
          by_cases hlt : i < a.next.length
          · obtain ⟨u, hu⟩ : ∃ u, us[i]? = some u := ⟨_, List.getElem?_eq_getElem (by have := HU.out; omega)⟩
            obtain ⟨b, o, rfl, -, hb1, hc⟩ := hx2 i u hu
            have hxi : a.next[i]? = some a.next[i] := List.getElem?_eq_getElem hlt
            have hvi := hrows i u _ hu hxi
            generalize a.next[i] = row at hvi hxi
            have c0 := hc 0 _ rfl
            simp only [Nat.mul_one, Nat.add_zero] at c0
            obtain ⟨A3, c3, rfl, hl3, hm3, hx3⟩ := hvi
            unfold maxLen at hm3
            have HX := Lib.hid hxi
            clear hc hx2 hu hxi hrows
            go_wp2_with fail
            go_loop [38] (fun jj => ∃ j : Nat, j ≤ row.length ∧ jj = .int .i64 j ∧ (row.take j).all (fun t => wi t (-1) ((a.accept.length : Int) - 1)) = true) (fun jj => row.length - (intOf jj).toNat)
            case atStart => exact ⟨0, Nat.zero_le _, rfl, rfl⟩
            case round =>
              obtain ⟨j, hj, rfl, hall2⟩ := hrel
              have HB := Lib.hid hall2
              clear hall2
              by_cases hlt2 : j < row.length
              · have hxj : row[j]? = some row[j] := List.getElem?_eq_getElem hlt2
                obtain ⟨b2, o2, rfl, -, hb2, hc2⟩ := hx3 j _ hxj
                generalize row[j] = t at hc2 hxj
                have d0 := hc2 0 _ rfl
                simp only [Nat.mul_one, Nat.add_zero] at d0
                have HXJ := Lib.hid hxj
                clear hc2 hx3 hxj
                by_cases g4 : wi t (-1) ((a.accept.length : Int) - 1) = true
                · go_wp2_with (go_at_call 39; refine (HW.out _ _ _ _).mono ?_; rintro e w' ⟨rfl, rfl⟩)
                  go_round
                  case rel => exact ⟨j + 1, by omega, by go_num, all_take_succ HXJ.out HB.out g4⟩
                  case measure => simp [intOf]; omega
                · simp only [Bool.not_eq_true] at g4
                  have hfin : auOk a = false := by
                    rw [HR.out]
                    refine all_false_of HX.out ?_
                    rw [rowOk, all_false_of HXJ.out g4]
                    rfl
                  have HF := Lib.hid hfin
                  clear hfin
                  go_wp2_with (go_at_call 39; refine (HW.out _ _ _ _).mono ?_; rintro e w' ⟨rfl, rfl⟩)
                  go_ret
                  exact ⟨by rw [HF.out]; rfl, hb0⟩
              · obtain rfl : j = row.length := by omega
                have hall3 : row.all (fun t => wi t (-1) ((a.accept.length : Int) - 1)) = true := by have := HB.out; rwa [List.take_length] at this
                have H3 := Lib.hid hall3
                clear hall3
                clear hx3
                by_cases g9 : row.length = 9
                · have g9' : ((row.length : Int) != 9) = false := by simp; omega
                  have hok : rowOk a.accept.length row = true := by rw [rowOk, H3.out, g9]; rfl
                  have HO := Lib.hid hok
                  clear hok g9
                  go_wp2_with fail
                  go_round
                  case rel => exact ⟨i + 1, by omega, by go_num, all_take_succ HX.out HA.out HO.out⟩
                  case measure => simp [intOf]; omega
                · have g9' : ((row.length : Int) != 9) = true := by simp; omega
                  have hfin : auOk a = false := by
                    rw [HR.out]
                    refine all_false_of HX.out ?_
                    rw [rowOk]
                    simp [g9]
                  have HF := Lib.hid hfin
                  clear hfin g9
                  go_wp2_with fail
                  go_ret
                  exact ⟨by rw [HF.out]; rfl, hb0⟩
          · obtain rfl : i = a.next.length := by omega
            have hfin : auOk a = true := by rw [HR.out]; have := HA.out; rwa [List.take_length] at this
            have HF := Lib.hid hfin
            clear hfin hx2 hrows
            go_wp2_with fail
            go_ret
            exact ⟨by rw [HF.out]; rfl, hb0⟩
      · have g3' : ((a.next.length : Int) != (a.accept.length : Int)) = true := by simp; omega
        have hr : auOk a = false := by simp [auOk, g3]
        have HR := Lib.hid hr
        clear hr g3
        go_enter Try.func71, Try.ntmps71
        go_wp2_with (go_at_call 39; refine (HW.out _ _ _ _).mono ?_; rintro e w' ⟨rfl, rfl⟩)
        go_ret
        exact ⟨by rw [HR.out]; rfl, hb0⟩
    · simp only [Bool.not_eq_true] at g2
      have hr : auOk a = false := by simp [auOk, g2]
      have HR := Lib.hid hr
      clear hr
      go_enter Try.func71, Try.ntmps71
      go_wp2_with (go_at_call 39; refine (HW.out _ _ _ _).mono ?_; rintro e w' ⟨rfl, rfl⟩)
      go_ret
      exact ⟨by rw [HR.out]; rfl, hb0⟩
  · simp only [Bool.not_eq_true] at g1
    have hr : auOk a = false := by simp [auOk, g1]
    have HR := Lib.hid hr
    clear hr
    go_enter Try.func71, Try.ntmps71
    go_wp2_with (go_at_call 39; refine (HW.out _ _ _ _).mono ?_; rintro e w' ⟨rfl, rfl⟩)
    go_ret
    exact ⟨by rw [HR.out]; rfl, hb0⟩

set_option maxHeartbeats 1000000 in
theorem statesOk_any (v lv : Value) (a : Au) (ss : List Int) (w : World) (hv : AuV 0 w.heap.size w v a) (hl : SlE w cI 1 lv ss) :
    Calls Try.prog 38 #[v, lv] w fun e w' => e = .returned (.bool (ss.all (fun s => wi s 0 ((a.accept.length : Int) - 1)) && auOk a)) ∧ Below w.heap.size w w' := by
  have hv0 := hv
  obtain ⟨ac, nx, rfl, ⟨A1, c1, rfl, hl1, hm1, -⟩, -⟩ := hv
  obtain ⟨A2, c2, rfl, hl2, hm2, hx2⟩ := hl
  unfold maxLen at hm1 hm2
  have hb0 : Below w.heap.size w (w.alloc (.cells #[.int .i64 a.start, .slice A1 a.accept.length c1, nx] 27)) := (Below.refl _ _).alloc (Nat.le_refl _) _
  have HW := Lib.hid within_any
  go_enter Try.func38, Try.ntmps38
  go_wp2_with fail
  go_loop [9] (fun ii => ∃ i : Nat, i ≤ ss.length ∧ ii = .int .i64 i ∧ (ss.take i).all (fun s => wi s 0 ((a.accept.length : Int) - 1)) = true) (fun ii => ss.length - (intOf ii).toNat)
  case atStart => exact ⟨0, Nat.zero_le _, rfl, rfl⟩
  case round =>
    obtain ⟨i, hi, rfl, hall⟩ := hrel
    have HA := Lib.hid hall
    clear hall
    by_cases hlt : i < ss.length
    · have hxi : ss[i]? = some ss[i] := List.getElem?_eq_getElem hlt
      obtain ⟨b, o, rfl, -, hb1, hc⟩ := hx2 i _ hxi
      generalize ss[i] = s at hc hxi
      have c0 := hc 0 _ rfl
      simp only [Nat.mul_one, Nat.add_zero] at c0
      have HX := Lib.hid hxi
      clear hc hx2 hxi
      by_cases g4 : wi s 0 ((a.accept.length : Int) - 1) = true
      · go_wp2_with (go_at_call 39; refine (HW.out _ _ _ _).mono ?_; rintro e w' ⟨rfl, rfl⟩)
        go_round
        case rel => exact ⟨i + 1, by omega, by go_num, all_take_succ HX.out HA.out g4⟩
        case measure => simp [intOf]; omega
      · simp only [Bool.not_eq_true] at g4
        have hfin : ss.all (fun s => wi s 0 ((a.accept.length : Int) - 1)) = false := all_false_of HX.out g4
        have HF := Lib.hid hfin
        clear hfin
        go_wp2_with (go_at_call 39; refine (HW.out _ _ _ _).mono ?_; rintro e w' ⟨rfl, rfl⟩)
        go_ret
        exact ⟨by rw [HF.out]; rfl, hb0⟩
    · obtain rfl : i = ss.length := by omega
      have hfin : ss.all (fun s => wi s 0 ((a.accept.length : Int) - 1)) = true := by have := HA.out; rwa [List.take_length] at this
      have HF := Lib.hid hfin
      clear hfin hx2
      go_wp2_with fail
      refine (implValidAutomaton _ a _ (hv0.keep hb0)).mono ?_
      rintro e w1 ⟨rfl, hb1⟩
      go_wp2_with fail
      go_ret
      exact ⟨by rw [HF.out]; rfl, below_trans hb0 hb1⟩
end Go.Proofs.Ytallglnmeeahiaa

/- The program's functions on graphs: validity, edges, steps. -/
namespace Go.Proofs.Ytallglnmeeahiaa
set_option linter.unusedVariables false
set_option linter.unusedSimpArgs false
open Go.ChangeShapes Go.WideShapes Go.ChangeAt Go.RowKit
attribute [local go_sem] ext_cell ext_frozen ext_lt ext_lt1 ext_lt2 ext_lt3 ltn2 ltn3 ltn13 lts1 lts2 lts3

set_option maxHeartbeats 1000000 in
theorem edgeOk_any (e : Ed) (n : Nat) (w : World) (hn : n ≤ 9223372036854775807) :
    Calls Try.prog 104 #[.agg #[.int .i64 e.1, .int .i64 e.2.1, .int .i64 e.2.2.1, .int .i64 e.2.2.2], .int .i64 (n : Int)] w fun en w' => en = .returned (.bool (edOk n e)) ∧ Below w.heap.size w w' := by
  obtain ⟨a, b, c, d⟩ := e
  have HW := Lib.hid within_any
  unfold edOk
  simp only
  have hb0 : Below w.heap.size w (w.alloc (.cells #[.int .i64 a, .int .i64 b, .int .i64 c, .int .i64 d] 90)) := (Below.refl _ _).alloc (Nat.le_refl _) _
  cases g1 : wi a 1 99 with
  | false =>
    have HZ := Lib.hid g1
    go_enter Try.func104, Try.ntmps104
    go_wp2_with (go_at_call 39; refine (HW.out _ _ _ _).mono ?_; rintro e w' ⟨rfl, rfl⟩)
    go_ret
    exact ⟨rfl, hb0⟩
  | true =>
    cases g2 : wi b 0 ((n : Int) - 1) with
    | false =>
      go_enter Try.func104, Try.ntmps104
      go_wp2_with (go_at_call 39; refine (HW.out _ _ _ _).mono ?_; rintro e w' ⟨rfl, rfl⟩)
      go_ret
      exact ⟨rfl, hb0⟩
    | true =>
      cases g3 : wi c 0 ((n : Int) - 1) with
      | false =>
        go_enter Try.func104, Try.ntmps104
        go_wp2_with (go_at_call 39; refine (HW.out _ _ _ _).mono ?_; rintro e w' ⟨rfl, rfl⟩)
        go_ret
        exact ⟨rfl, hb0⟩
      | true =>
        go_enter Try.func104, Try.ntmps104
        go_wp2_with (go_at_call 39; refine (HW.out _ _ _ _).mono ?_; rintro e w' ⟨rfl, rfl⟩)
        go_ret
        exact ⟨rfl, hb0⟩

set_option maxHeartbeats 2000000 in
theorem implValidGraph (v : Value) (g : Gr) (w : World) (hv : GrV 0 w.heap.size w v g) :
    Calls Try.prog 83 #[v] w fun e w' => e = .returned (.bool (grOk g)) ∧ Below w.heap.size w w' := by
  obtain ⟨vs, es, rfl, ⟨A1, c1, rfl, hl1, hm1, hx1⟩, ⟨A2, c2, rfl, hl2, hm2, hx2⟩⟩ := hv
  unfold maxLen at hm1 hm2
  have hb0 : Below w.heap.size w (w.alloc (.cells #[.slice A1 g.vals.length c1, .slice A2 g.edges.length c2] 38)) := (Below.refl _ _).alloc (Nat.le_refl _) _
  have HW := Lib.hid within_any
  have HX1 := Lib.hid hx1
  have HX2 := Lib.hid hx2
  clear hx1 hx2
  go_enter Try.func83, Try.ntmps83
  go_wp2_with fail
  go_loop [14] (fun ii => ∃ i : Nat, i ≤ g.vals.length ∧ ii = .int .i64 i ∧ (g.vals.take i).all (fun v => wi v 0 2) = true) (fun ii => g.vals.length - (intOf ii).toNat)
  case atStart => exact ⟨0, Nat.zero_le _, rfl, rfl⟩
  case round =>
    obtain ⟨i, hi, rfl, hall⟩ := hrel
    have HA := Lib.hid hall
    clear hall
    by_cases hlt : i < g.vals.length
    · have hxi : g.vals[i]? = some g.vals[i] := List.getElem?_eq_getElem hlt
      obtain ⟨b, o, rfl, -, hb1, hc⟩ := HX1.out i _ hxi
      generalize g.vals[i] = x at hc hxi
      have c0 := hc 0 _ rfl
      simp only [Nat.mul_one, Nat.add_zero] at c0
      have HX := Lib.hid hxi
      clear hc hxi
      cases g4 : wi x 0 2 with
      | true =>
        have G4 := Lib.hid g4
        go_wp2_with (go_at_call 39; refine (HW.out _ _ _ _).mono ?_; rintro e w' ⟨rfl, rfl⟩)
        go_round
        case rel => exact ⟨i + 1, by omega, by go_num, all_take_succ HX.out HA.out G4.out⟩
        case measure => simp [intOf]; omega
      | false =>
        have hfin : grOk g = false := by
          rw [grOk, all_false_of HX.out g4]
          rfl
        have HF := Lib.hid hfin
        clear hfin
        go_wp2_with (go_at_call 39; refine (HW.out _ _ _ _).mono ?_; rintro e w' ⟨rfl, rfl⟩)
        go_ret
        exact ⟨by rw [HF.out]; rfl, hb0⟩
    · obtain rfl : i = g.vals.length := by omega
      have hallv : g.vals.all (fun v => wi v 0 2) = true := by have := HA.out; rwa [List.take_length] at this
      have HV := Lib.hid hallv
      clear hallv HA
      go_wp2_with fail
      go_loopw [25] (fun ii wr => ∃ (i : Nat) (u : World), i ≤ g.edges.length ∧ ii = .int .i64 i ∧ (List.range i).all (edAt g.vals.length g.edges) = true ∧ wr = ext (w.alloc (.cells #[.slice A1 g.vals.length c1, .slice A2 g.edges.length c2] 38)) u) (fun ii _ => g.edges.length - (intOf ii).toNat)
      case atStart => exact ⟨0, _, Nat.zero_le _, rfl, rfl, ext_self _⟩
      case round =>
        obtain ⟨i, u, hi, rfl, hall, rfl⟩ := hrel
        have HA := Lib.hid hall
        clear hall
        by_cases hlt : i < g.edges.length
        · have hxi : g.edges[i]? = some g.edges[i] := List.getElem?_eq_getElem hlt
          obtain ⟨b, o', rfl, -, hb1, hc⟩ := HX2.out i _ hxi
          generalize g.edges[i] = x at hc hxi
          have c0 := hc 0 _ rfl
          have c1' := hc 1 _ rfl
          have c2' := hc 2 _ rfl
          have c3 := hc 3 _ rfl
          simp only [Nat.add_zero] at c0
          have HX := Lib.hid hxi
          have hlen : g.vals.length ≤ 9223372036854775807 := by omega
          clear hc hxi
          have hgr : grOk g = ((List.range g.edges.length).all (edAt g.vals.length g.edges) && wi g.vals.length 1 5 && decide (g.edges.length ≤ 12)) := by
            rw [grOk, HV.out]; rfl
          have HGR := Lib.hid hgr
          clear hgr
          cases g4 : edOk g.vals.length x with
          | false =>
            have hfin : grOk g = false := by
              rw [HGR.out, range_all_false hlt (by rw [edAt, HX.out]; simp [g4])]
              rfl
            have HF := Lib.hid hfin
            clear hfin
            go_wp2_with fail
            refine wp_region_ext_lit (by kernel_rfl) (by kernel_rfl) ?_
            repeat (go_big_quiet_step ((go_at_call 104; exact Calls.ext_of (edgeOk_any x g.vals.length _ hlen))))
            refine wpQuiet_nil ?_
            intro _ hw'
            obtain ⟨u2, hw''⟩ := hw'
            subst hw''
            go_wp2_with fail
            go_ret
            exact ⟨by rw [HF.out]; rfl, below_trans hb0 (below_trans (ext_below _ _) (below_trans ((Below.refl _ _).alloc (Nat.le_refl _) _) (ext_below _ _)))⟩
          | true =>
            have G4 := Lib.hid g4
            have hbx : ∀ o u2, ∃ z, ext ((ext (w.alloc (.cells #[.slice A1 g.vals.length c1, .slice (some ⟨b, o', none⟩) g.edges.length c2] 38)) u).alloc o) u2 = ext (w.alloc (.cells #[.slice A1 g.vals.length c1, .slice (some ⟨b, o', none⟩) g.edges.length c2] 38)) z :=
              fun o u2 => ext_of (below_trans (ext_below _ _) (below_trans ((Below.refl _ _).alloc (Nat.le_refl _) _) (ext_below _ _)))
            by_cases hi0 : i = 0
            · subst hi0
              have hat : edAt g.vals.length g.edges 0 = true := by rw [edAt, HX.out]; simp [G4.out]
              have HAT := Lib.hid hat
              clear hat
              simp only [Nat.zero_mul, Nat.add_zero, Nat.zero_add] at c0 c1' c2' c3
              go_wp2_with fail
              refine wp_region_ext_lit (by kernel_rfl) (by kernel_rfl) ?_
              repeat (go_big_quiet_step ((go_at_call 104; exact Calls.ext_of (edgeOk_any x g.vals.length _ hlen))))
              refine wpQuiet_nil ?_
              intro _ hw'
              obtain ⟨u2, hw''⟩ := hw'
              subst hw''
              go_wp2_with fail
              go_roundw
              case rel =>
                obtain ⟨z, hz⟩ := hbx _ u2
                exact ⟨1, z, by omega, by go_num, range_all_succ HA.out HAT.out, hz⟩
              case measure => simp [intOf]; omega
            · have hi1 : 0 < i := by omega
              have hxj : g.edges[i - 1]? = some g.edges[i - 1] := List.getElem?_eq_getElem (by omega)
              obtain ⟨b9, o9, ho9, -, -, hcj⟩ := HX2.out (i - 1) _ hxj
              obtain ⟨rfl, rfl⟩ : b = b9 ∧ o' = o9 := by injection ho9 with h1; injection h1 with h1 h2; exact ⟨h1, h2⟩
              generalize g.edges[i - 1] = p at hcj hxj
              have hb1' : b < w.heap.size + 1 := by omega
              have p0 := hcj 0 _ rfl
              simp only [Nat.add_zero] at p0
              have HXJ := Lib.hid hxj
              have hi00 : ((i : Int) > 0) := by omega
              clear hcj hxj ho9
              by_cases hlt2 : p.1 < x.1
              · have hat : edAt g.vals.length g.edges i = true := by rw [edAt, HX.out]; simp [G4.out, HXJ.out, hlt2]
                have hge : decide (p.1 ≥ x.1) = false := by simp; omega
                have HAT := Lib.hid hat
                clear hat
                go_wp2_with fail
                have q1 : IntKind.i64.wrap ((i : Int) - 1) = (i : Int) - 1 := IntWalk.i64_in _ (by omega)
                have q2 : 0 ≤ (i : Int) - 1 := by omega
                have q3 : (i : Int) - 1 < (g.edges.length : Int) := by omega
                have q4 : ((i : Int) - 1).toNat = i - 1 := by omega
                refine wp_region_ext_lit (by kernel_rfl) (by kernel_rfl) ?_
                repeat (go_big_quiet_step ((go_at_call 104; exact Calls.ext_of (edgeOk_any x g.vals.length _ hlen))))
                refine wpQuiet_nil ?_
                intro _ hw'
                obtain ⟨u2, hw''⟩ := hw'
                subst hw''
                clear q1 q2 q3 q4
                go_wp2_with fail
                go_roundw
                case rel =>
                  obtain ⟨z, hz⟩ := hbx _ u2
                  exact ⟨i + 1, z, by omega, by go_num, range_all_succ HA.out HAT.out, hz⟩
                case measure => simp [intOf]; omega
              · have hfin : grOk g = false := by
                  rw [HGR.out, range_all_false hlt (by rw [edAt, HX.out]; simp [G4.out, HXJ.out, hi0]; omega)]
                  rfl
                have hge : decide (p.1 ≥ x.1) = true := by simp; omega
                have HF := Lib.hid hfin
                clear hfin
                go_wp2_with fail
                have q1 : IntKind.i64.wrap ((i : Int) - 1) = (i : Int) - 1 := IntWalk.i64_in _ (by omega)
                have q2 : 0 ≤ (i : Int) - 1 := by omega
                have q3 : (i : Int) - 1 < (g.edges.length : Int) := by omega
                have q4 : ((i : Int) - 1).toNat = i - 1 := by omega
                refine wp_region_ext_lit (by kernel_rfl) (by kernel_rfl) ?_
                repeat (go_big_quiet_step ((go_at_call 104; exact Calls.ext_of (edgeOk_any x g.vals.length _ hlen))))
                refine wpQuiet_nil ?_
                intro _ hw'
                obtain ⟨u2, hw''⟩ := hw'
                subst hw''
                clear q1 q2 q3 q4
                go_wp2_with fail
                go_ret
                exact ⟨by rw [HF.out]; rfl, below_trans hb0 (below_trans (ext_below _ _) (below_trans ((Below.refl _ _).alloc (Nat.le_refl _) _) (ext_below _ _)))⟩
        · obtain rfl : i = g.edges.length := by omega
          have hgr : grOk g = (wi g.vals.length 1 5 && decide (g.edges.length ≤ 12)) := by
            rw [grOk, HV.out, HA.out]; rfl
          have HGR := Lib.hid hgr
          clear hgr HA HV
          cases g5 : wi g.vals.length 1 5 with
          | false =>
            rw [g5] at HGR
            go_wp2_with (go_at_call 39; refine (HW.out _ _ _ _).mono ?_; rintro e w' ⟨rfl, rfl⟩)
            go_ret
            exact ⟨by rw [HGR.out]; rfl, below_trans hb0 (ext_below _ _)⟩
          | true =>
            rw [g5] at HGR
            have HG5 := Lib.hid g5
            by_cases g6 : g.edges.length ≤ 12
            · have g6' : decide ((g.edges.length : Int) ≤ 12) = true := by simp; omega
              have hfin : grOk g = true := by rw [HGR.out]; simp [g6]
              have HF := Lib.hid hfin
              clear hfin HGR
              go_wp2_with (go_at_call 39; refine (HW.out _ _ _ _).mono ?_; rintro e w' ⟨rfl, rfl⟩)
              go_ret
              exact ⟨by rw [HF.out]; rfl, below_trans hb0 (ext_below _ _)⟩
            · have g6' : decide ((g.edges.length : Int) ≤ 12) = false := by simp; omega
              have hfin : grOk g = false := by rw [HGR.out]; simp [g6]
              have HF := Lib.hid hfin
              clear hfin HGR
              go_wp2_with (go_at_call 39; refine (HW.out _ _ _ _).mono ?_; rintro e w' ⟨rfl, rfl⟩)
              go_ret
              exact ⟨by rw [HF.out]; rfl, below_trans hb0 (ext_below _ _)⟩
/-- slices.IndexFunc over edges, at EdgeIndex's closure -/
theorem indexFuncEdge (k0 : Value) (v : Value) (xs : List Ed) (p : Ed → Prop) (w : World) (hv : SlE w cEd 4 v xs)
    (hF : ∀ x ∈ xs, ∀ W : World, Below w.heap.size w W → Calls Try.prog 112 #[.agg #[.int .i64 x.1, .int .i64 x.2.1, .int .i64 x.2.2.1, .int .i64 x.2.2.2], k0] W fun e W' => ∃ b, e = .returned (.bool b) ∧ (b = true ↔ p x) ∧ Below W.heap.size W W') :
    Calls Try.prog 111 #[v, .func (Fn.func 112) #[] #[k0]] w fun e w' => ∃ r : Int, e = .returned (.int .i64 r) ∧ Below w.heap.size w w' ∧
      ((r = -1 ∧ ∀ x ∈ xs, ¬ p x) ∨ ∃ (i : Nat) (x : Ed), r = i ∧ xs[i]? = some x ∧ p x ∧ ∀ y ∈ xs.take i, ¬ p y) := by
  obtain ⟨A, c, rfl, hl, hm, hx⟩ := hv
  unfold maxLen at hm
  have HF := Lib.hid hF
  have HX := Lib.hid hx
  clear hF hx
  go_enter Try.func111, Try.ntmps111
  go_wp2_with fail
  go_loopw [8] (fun ii wr => ∃ (i : Nat) (u : World), i ≤ xs.length ∧ ii = .int .i64 i ∧ (∀ y ∈ xs.take i, ¬ p y) ∧ wr = ext w u) (fun ii _ => xs.length - (intOf ii).toNat)
  case atStart => exact ⟨0, w, Nat.zero_le _, rfl, by simp, ext_self w⟩
  case round =>
    obtain ⟨i, u, hi, rfl, hno, rfl⟩ := hrel
    have HN := Lib.hid hno
    clear hno
    by_cases hlt : i < xs.length
    · have hxi : xs[i]? = some xs[i] := List.getElem?_eq_getElem hlt
      generalize xs[i] = x at hxi
      obtain ⟨b, o, rfl, -, hb, hc⟩ := HX.out i x hxi
      have c0 := hc 0 _ rfl
      have c1' := hc 1 _ rfl
      have c2' := hc 2 _ rfl
      have c3 := hc 3 _ rfl
      simp only [Nat.add_zero] at c0
      have HXI := Lib.hid hxi
      clear hc hxi
      go_wp2_with fail
      refine (HF.out x (List.mem_of_getElem? HXI.out) _ (ext_below w u)).mono ?_
      rintro e w1 ⟨bb, rfl, hbb, hb1⟩
      have HBB := Lib.hid hbb
      clear hbb
      cases bb with
      | true =>
        go_wp2_with fail
        go_ret
        exact ⟨_, rfl, below_trans (ext_below w u) hb1, .inr ⟨i, x, rfl, HXI.out, HBB.out.1 (by first | rfl | trivial), HN.out⟩⟩
      | false =>
        go_wp2_with fail
        go_roundw
        case rel =>
          obtain ⟨z, hz⟩ := ext_of (below_trans (ext_below w u) hb1)
          refine ⟨i + 1, z, by omega, by go_num, fun y hy => ?_, hz⟩
          rw [take_snoc HXI.out] at hy
          rcases List.mem_append.1 hy with hy | hy
          · exact HN.out y hy
          · have : y = x := by simpa using hy
            subst this
            exact fun h => by have := HBB.out.2 h; cases this
        case measure => simp [intOf]; omega
    · obtain rfl : i = xs.length := by omega
      go_wp2_with fail
      go_ret
      exact ⟨_, rfl, ext_below w u, .inl ⟨rfl, fun x hx => HN.out x (by rw [List.take_length]; exact hx)⟩⟩

set_option maxHeartbeats 1000000 in
theorem implEdgeIndex (v : Value) (g : Gr) (id : Int) (w : World) (hv : GrV 0 w.heap.size w v g) :
    Calls Try.prog 96 #[v, .int .i64 id] w fun e w' => e = .returned (.int .i64 (edgeIdx g id)) ∧ Below w.heap.size w w' := by
  obtain ⟨vs, es, rfl, -, hes⟩ := hv
  have hb0 : Below w.heap.size w ((w.alloc (.cells #[vs, es] 38)).alloc (.cells #[.int .i64 id] 3)) := ((Below.refl _ _).alloc (Nat.le_refl _) _).alloc (by simp) _
  have b1 := Blk.new (w.alloc (.cells #[vs, es] 38)) 3 #[.int .i64 id] (w.heap.size + 1) (by simp)
  go_enter Try.func96, Try.ntmps96
  go_wp2_with fail
  refine (indexFuncEdge _ es g.edges (fun e => e.1 = id) _ (SlE.keep hes hb0) (fun x hx W hW => ?_)).mono ?_
  · have b1' := b1.keep hW
    have y0 : W.cell? ⟨w.heap.size + 1, 0, none⟩ = some _ := b1'.cell 0
    have hlt := b1'.lt
    clear hb0 b1 b1' hW
    obtain ⟨x1, x2, x3, x4⟩ := x
    go_enter Try.func112, Try.ntmps112
    go_wp2_with fail
    go_ret
    refine ⟨_, rfl, by simp, (Below.refl _ _).alloc (Nat.le_refl _) _⟩
  · rintro e w1 ⟨r, rfl, hb1, hr⟩
    have hfin : edgeIdx g id = r := by
      rcases hr with ⟨rfl, h⟩ | ⟨i, x, rfl, hx, hp, hno⟩
      · exact edgeIdx_none h
      · exact edgeIdx_some hx hp hno
    subst hfin
    clear hr
    go_wp2_with fail
    go_ret
    exact ⟨rfl, below_trans hb0 hb1⟩
end Go.Proofs.Ytallglnmeeahiaa

