/- Parts of the proof, joined into one text: Srw, HelpWalk, LstS, DrwC, WlkD, MatQ, StpL, HeldG. -/
import Derived.Test.YtallglnmeeahiaaGreatOnlyEHEILOHB
import Derived.Test.YtallglnmeeahiaaGreatOnlyFFCONIGA
import Derived.Test.YtallglnmeeahiaaGreatOnlyBAKGCBEJ
import Derived.Test.YtallglnmeeahiaaGreatOnlyDEGJKGJL
import Derived.Test.YtallglnmeeahiaaGreatOnlyCFLHLFPM
import Derived.Test.YtallglnmeeahiaaGreatOnlyEMCELGCF
import Derived.Test.YtallglnmeeahiaaGreatOnlyGKHBMKEF
import Derived.RegionTactic
import Derived.BigRegion
import Derived.Deep.DeepCutAuto
namespace Go.Proofs.YtallglnmeeahiaaGreat
set_option linter.unusedVariables false
set_option linter.unusedSimpArgs false
open Go.ChangeShapes Go.WideShapes Go.ChangeAt Go.RowKit
structure Srw (bS : Nat) (r : Option Nat) (w w' : World) : Prop where
  os : w'.os = w.os
  tape : w'.tape = w.tape
  output : w'.output = w.output
  size : w.heap.size ≤ w'.heap.size
  block : ∀ n, n < w.heap.size → n ≠ bS → r ≠ some n → w'.heap[n]? = w.heap[n]?
section
variable {bS : Nat} {r r1 : Option Nat} {w w1 w2 w' : World}
theorem Srw.refl (bS : Nat) (r : Option Nat) (w : World) : Srw bS r w w := ⟨rfl, rfl, rfl, Nat.le_refl _, fun _ _ _ _ => rfl⟩
theorem Srw.trans (h : Srw bS r w w1) (h2 : Srw bS r1 w1 w2) (hr : ∀ n, r1 = some n → r = some n ∨ w.heap.size ≤ n) : Srw bS r w w2 :=
  ⟨h2.os.trans h.os, h2.tape.trans h.tape, h2.output.trans h.output, Nat.le_trans h.size h2.size, fun n hn h3 h4 =>
    (h2.block n (Nat.lt_of_lt_of_le hn h.size) h3 (fun e => by rcases hr n e with h5 | h5; exact h4 h5; omega)).trans (h.block n hn h3 h4)⟩
theorem Srw.of_below {B : Nat} (h : Below B w w') (hB : w.heap.size ≤ B) (bS : Nat) (r : Option Nat) : Srw bS r w w' := ⟨h.os, h.tape, h.output, h.size, fun n hn _ _ => h.block n (by omega)⟩
theorem Srw.set (bS : Nat) (r : Option Nat) (w : World) (i : Nat) (u : Value) : Srw bS r w (w.setCell ⟨bS, i, none⟩ u) :=
  ⟨rfl, rfl, rfl, by simp [World.setCell], fun n _ h3 _ => Below.heap_setCell w ⟨bS, i, none⟩ u n h3⟩
theorem Srw.below (h : Srw bS r w w') {B : Nat} (h1 : B ≤ bS) (h2 : ∀ n, r = some n → B ≤ n) (h3 : B ≤ w.heap.size) : Below B w w' :=
  ⟨h.os, h.tape, h.output, h.size, fun n hn => h.block n (by omega) (by omega) (fun e => by have := h2 n e; omega)⟩
theorem Srw.sl {α : Type} {E : α → List Value} {lo hi k : Nat} {v : Value} {xs : List α} (h : SlI lo hi w E k v xs) (hs : Srw bS r w w') (hh : hi ≤ w.heap.size) (h1 : bS < lo ∨ hi ≤ bS) (h2 : ∀ n, r = some n → n < lo ∨ hi ≤ n) : SlI lo hi w' E k v xs :=
  h.keep_ fun b o h3 h4 => World.cell?_of_block (hs.block b (by omega) (by omega) (fun e => by have := h2 b e; omega))
theorem Srw.only {W0 : World} (h : Srw bS r w w') (h1 : ∀ n, r = some n → W0.heap.size ≤ n) : Only bS (bS + 1) W0 w → Only bS (bS + 1) W0 w' := fun h0 =>
  ⟨h.os.trans h0.os, h.tape.trans h0.tape, h.output.trans h0.output, Nat.le_trans h0.size h.size, fun n hn ho => (h.block n (Nat.lt_of_lt_of_le hn h0.size) (by omega) (fun e => by have := h1 n e; omega)).trans (h0.block n hn ho)⟩
theorem Srw.cell {b o : Nat} {v : Value} (hs : Srw bS r w w') (hc : w.cell? ⟨b, o, none⟩ = some v) (hb : b < w.heap.size) (h1 : b ≠ bS) (h2 : r ≠ some b) : w'.cell? ⟨b, o, none⟩ = some v :=
  (World.cell?_of_block (a := ⟨b, o, none⟩) (hs.block b hb h1 h2)).trans hc
theorem SlI.stI {lo hi : Nat} {w : World} {A : Option Addr} {n c : Nat} {xs : List St} (h : SlI lo hi w cSt 2 (.slice A n c) xs) {i : Nat} {x : St} (hx : xs[i]? = some x) :
    ∃ b o, A = some ⟨b, o, none⟩ ∧ (lo ≤ b ∧ b < hi) ∧ w.cell? ⟨b, o + i * 2, none⟩ = some (.int .i64 x.1) ∧ w.cell? ⟨b, o + i * 2 + 1, none⟩ = some (.bool x.2) := by
  obtain ⟨A', c', hv, _, _, h3⟩ := h
  injection hv with h1 _ _
  subst h1
  obtain ⟨b, o, e, g1, g2, hc⟩ := h3 i x hx
  exact ⟨b, o, e, ⟨g1, g2⟩, by simpa using hc 0 _ rfl, hc 1 _ rfl⟩
end
end Go.Proofs.YtallglnmeeahiaaGreat
namespace Go.Proofs.YtallglnmeeahiaaGreat
set_option linter.unusedVariables false
set_option linter.unusedSimpArgs false
open Go.ChangeShapes Go.WideShapes Go.ChangeAt Go.RowKit
attribute [local go_sem] ext_cell ext_frozen ext_lt ext_lt1 ext_lt2 ext_lt3 ltn2 ltn3 ltn13 lts1 lts2 lts3
def WkO (lo hi : Nat) (w : World) (v : Value) (k : Wk) : Prop :=
  ∃ ss, v = .agg #[.int .i64 k.1, ss] ∧ Own lo hi w 74 cSt 2 ss k.2
theorem WkO.view {lo hi : Nat} {w : World} {v : Value} {k : Wk} (h : WkO lo hi w v k) : WkV lo hi w v k := by
  obtain ⟨ss, rfl, h1⟩ := h
  exact ⟨ss, rfl, h1.sl cSt_len⟩
theorem WkO.below {lo hi : Nat} {w w' : World} {v : Value} {k : Wk} (h : WkO lo hi w v k) {B : Nat} (hb : Below B w w') (hB : hi ≤ B) : WkO lo hi w' v k := by
  obtain ⟨ss, rfl, h1⟩ := h
  exact ⟨ss, rfl, h1.below hb hB⟩
theorem WkO.only {lo hi : Nat} {w w' : World} {v : Value} {k : Wk} (h : WkO lo hi w v k) {l r : Nat} (hb : Only l r w w') (ho : hi ≤ l ∨ r ≤ lo) : WkO lo hi w' v k := by
  obtain ⟨ss, rfl, h1⟩ := h
  exact ⟨ss, rfl, h1.only hb ho⟩
theorem WkO.mono {lo hi : Nat} {w : World} {v : Value} {k : Wk} (h : WkO lo hi w v k) {lo' hi' : Nat} (h1 : lo' ≤ lo) (h2 : hi ≤ hi') : WkO lo' hi' w v k := by
  obtain ⟨ss, rfl, g1⟩ := h
  exact ⟨ss, rfl, g1.mono h1 h2⟩
end Go.Proofs.YtallglnmeeahiaaGreat
namespace Go.Proofs.YtallglnmeeahiaaGreat
set_option linter.unusedVariables false
set_option linter.unusedSimpArgs false
open Go.ChangeShapes Go.WideShapes Go.ChangeAt Go.RowKit
attribute [local go_sem] ext_cell ext_frozen ext_lt ext_lt1 ext_lt2 ext_lt3 ltn2 ltn3 ltn13 lts1 lts2 lts3
theorem elStW : ElemOk Tryz.prog 41 74 (.agg #[.int .i64 0, .bool false]) 2 16 := ⟨Tryz.underlying41, by kernel_rfl, rfl, by omega⟩
theorem own_blocksW {lo hi k : Nat} {w w' : World} {e : TypeId} {v : Value} {α : Type} {E : α → List Value} {xs : List α} (h : Own lo hi w e E k v xs) (hb : ∀ g, v.ownBlock = some g → w'.heap[g]? = w.heap[g]?) : Own lo hi w' e E k v xs := ⟨ownsRow_block h.1 hb, h.2⟩
theorem lwL_hit {g : Gr} {a : Au} {D : List Int} {f x s j : Nat} {p : Arc} (h : (arcsOf g (x : Int))[j]? = some p) (hno : ∀ r q, r < j → (arcsOf g (x : Int))[r]? = some q → keepA g a D f x s q = 0) (hp : keepA g a D f x s p ≠ 0) :
    lwL g a D (f + 1) x s = p.1 :: lwL g a D f p.2.2.toNat (keepA g a D f x s p) := by
  have hj := (List.getElem?_eq_some_iff.1 h).1
  have : (arcsOf g (x : Int)).find? (fun p => decide (keepA g a D f x s p ≠ 0)) = some p := by
    rw [List.find?_eq_some_iff_getElem]
    refine ⟨by simpa using hp, j, hj, (List.getElem?_eq_some_iff.1 h).2, fun r hr => ?_⟩
    have := hno r _ hr (List.getElem?_eq_getElem (by omega))
    simp [this]
  rw [lwL, this]
theorem lwL_miss {g : Gr} {a : Au} {D : List Int} {f x s : Nat} (hno : ∀ r q, r < (arcsOf g (x : Int)).length → (arcsOf g (x : Int))[r]? = some q → keepA g a D f x s q = 0) : lwL g a D (f + 1) x s = lwL g a D f x s := by
  have : (arcsOf g (x : Int)).find? (fun p => decide (keepA g a D f x s p ≠ 0)) = none := by
    rw [List.find?_eq_none]
    intro p hp
    obtain ⟨r, hr, he⟩ := List.getElem_of_mem hp
    have := hno r p hr (by rw [List.getElem?_eq_getElem hr, he])
    simp [this]
  rw [lwL, this]
set_option maxHeartbeats 8000000 in
set_option maxRecDepth 100000 in
theorem specLeastWitness (vg va : Value) (g : Gr) (a : Au) (x y : Int) (w : World) (hgv : GrV 0 w.heap.size w vg g) (hav : AuV 0 w.heap.size w va a) :
    Calls Tryz.prog 70 #[vg, va, .int .i64 x, .int .i64 y] w fun e w' => ∃ v', e = .returned (.tuple #[v', .bool (lstShort g a x y).2]) ∧ WkO w.heap.size w'.heap.size w' v' (lstShort g a x y).1 ∧ Below w.heap.size w w' := by
  have hgv0 := hgv
  have hav0 := hav
  obtain ⟨A1, n1, c1, A2, n2, c2, rfl⟩ := hgv.shape
  obtain ⟨A3, n3, c3, A4, n4, c4, rfl⟩ := hav.shape
  have hb0 : Below w.heap.size w (((w.alloc (.cells #[.slice A1 n1 c1, .slice A2 n2 c2] 27)).alloc (.cells #[.int .i64 a.start, .slice A3 n3 c3, .slice A4 n4 c4] 31)).alloc (.cells #[.int .i64 0, .slice none 0 0] 43)) := (((Below.refl _ _).alloc (Nat.le_refl _) _).alloc (by simp) _).alloc (by simp; omega) _
  have hbG := ((Blk.new w 27 #[.slice A1 n1 c1, .slice A2 n2 c2] w.heap.size rfl).alloc (.cells #[.int .i64 a.start, .slice A3 n3 c3, .slice A4 n4 c4] 31)).alloc (.cells #[.int .i64 0, .slice none 0 0] 43)
  have hbA := (Blk.new (w.alloc (.cells #[.slice A1 n1 c1, .slice A2 n2 c2] 27)) 31 #[.int .i64 a.start, .slice A3 n3 c3, .slice A4 n4 c4] (w.heap.size + 1) (by simp)).alloc (.cells #[.int .i64 0, .slice none 0 0] 43)
  have hbR := Blk.new ((w.alloc (.cells #[.slice A1 n1 c1, .slice A2 n2 c2] 27)).alloc (.cells #[.int .i64 a.start, .slice A3 n3 c3, .slice A4 n4 c4] 31)) 43 #[.int .i64 0, .slice none 0 0] (w.heap.size + 1 + 1) (by simp)
  have HBG := Lib.hid hbG
  have HBA := Lib.hid hbA
  have HBR := Lib.hid hbR
  have HGV := Lib.hid hgv0
  have HAV := Lib.hid hav0
  have HB0 := Lib.hid hb0
  have HSL := Lib.hid (fun (W : World) (hW : Below w.heap.size w W) => specShortestLength _ _ g a x y W (HGV.out.keep hW) (HAV.out.keep hW))
  clear hgv hav hgv0 hav0 hb0 hbG hbA hbR
  obtain ⟨R, hR⟩ : ∃ R, R = lstShort g a x y := ⟨_, rfl⟩
  rw [← hR]
  by_cases hneg : shortLen g a x y < 0
  · have HF := Lib.hid (show R = ((0, []), false) by rw [hR, lstShort, if_pos hneg])
    generalize shortLen g a x y = SL at *
    clear hR
    go_enter Tryz.func70, Tryz.ntmps70
    go_wp2_with fail
    refine (HSL.out _ HB0.out).mono ?_
    rintro e w1 ⟨rfl, hb1⟩
    have hb2 := below_trans HB0.out hb1
    have bR := HBR.out.keep hb1
    have r0 : w1.cell? ⟨w.heap.size + 1 + 1, 0, none⟩ = some (.int .i64 0) := bR.cell 0
    have r1 : w1.cell? ⟨w.heap.size + 1 + 1, 1, none⟩ = some (.slice none 0 0) := bR.cell 1
    have fr0 := bR.frozen 0
    have fr1 := bR.frozen 1
    have lr := bR.lt
    clear bR
    clear hb1
    go_wp2_with fail
    refine bodyPost_ret (v := .tuple #[.agg #[.int .i64 0, .slice none 0 0], .bool false]) (by simp [results, Tryz.results70, go_sem, r0, r1]) rfl ⟨_, by rw [HF.out], ?_, (hb2.setCell (p := ⟨w.heap.size + 1 + 1, 0, none⟩) (by simp only; omega) _).setCell (p := ⟨w.heap.size + 1 + 1, 1, none⟩) (by simp only; omega) _⟩
    rw [HF.out]
    exact ⟨_, rfl, Own.nil _ _ _ _ _ _⟩
  · have hco := shortLen_ok (show 0 ≤ shortLen g a x y by omega)
    obtain ⟨⟨hx0, hx1⟩, ⟨hy0, hy1⟩, hgo, ha⟩ := cntOk_iff.1 hco
    have hlt := shortLen_lt g a x y
    obtain ⟨L, hL⟩ := Int.eq_ofNat_of_zero_le (show 0 ≤ shortLen g a x y by omega)
    rw [hL] at HSL hlt
    obtain ⟨x, rfl⟩ := Int.eq_ofNat_of_zero_le hx0
    obtain ⟨y, rfl⟩ := Int.eq_ofNat_of_zero_le hy0
    have hxl : x < g.vals.length := by omega
    have hyl : y < g.vals.length := by omega
    have hst0 := (auOk_iff.1 ha).2.1
    have hn12 := (auOk_iff.1 ha).1.2
    have hn5 := (grOk_iff.1 hgo).n5
    have hdl := distTo_len (g := g) (a := a) (y := (y : Int)) (by simp only [Bool.and_eq_true]; exact ⟨by rw [wi_iff]; omega, hgo, ha⟩)
    have hBK := fun (W : World) (hW : Below w.heap.size w W) => l14Back_any _ _ g a y W (HGV.out.keep hW) (HAV.out.keep hW) hgo ha hyl
    obtain ⟨D, hD⟩ : ∃ D, D = distTo g a (y : Int) := ⟨_, rfl⟩
    obtain ⟨SS, hSS⟩ : ∃ SS, SS = lwL g a D L x (bit a.start.toNat) := ⟨_, rfl⟩
    have HF := Lib.hid (show R = (((x : Int), SS), true) by rw [hR, lstShort, if_neg hneg, hL, hSS, hD, Int.toNat_natCast, Int.toNat_natCast])
    rw [← hD] at hdl hBK
    have hd60 : D.length ≤ 60 := by rw [hdl]; exact Nat.mul_le_mul hn5 hn12
    have HDL := Lib.hid hdl
    have HBK := Lib.hid hBK
    have HGO := Lib.hid hgo
    have HA := Lib.hid ha
    have HSS := Lib.hid hSS
    have hn3 : n3 = a.accept.length := by
      obtain ⟨A3', c3', A4', c4', he, -⟩ := HAV.out.form ha
      injection he with he
      simp at he
      exact he.1.2.1
    have HS0 := Lib.hid (show bit a.start.toNat < 2 ^ a.accept.length from bit_lt (by omega))
    obtain ⟨s0, hs0⟩ := Int.eq_ofNat_of_zero_le hst0.1
    have hs12 : s0 < 12 := by omega
    have e1 := shl_bit (s := s0) (by omega)
    have e2 : wrap64 (2 ^ min s0 64) = (bit s0 : Int) := by rw [Nat.min_eq_left (by omega)]; exact e1
    have hst : a.start.toNat = s0 := by omega
    rw [hst] at HSS HS0
    have HE2 := Lib.hid e2
    have HE1 := Lib.hid e1
    have HS00 := Lib.hid hs0
    subst hn3
    clear hneg hco hgo ha hx0 hx1 hy0 hy1 hL hD hSS hR hdl hBK hst hst0 e1 e2 hs0
    have HBX := Lib.hid (show Blk _ (w.heap.size + 1) 31 #[.int .i64 a.start, .slice A3 a.accept.length c3, .slice A4 n4 c4] from HBA.out)
    have hln : ¬ (L : Int) < 0 := by omega
    go_enter Tryz.func70, Tryz.ntmps70
    go_wp2_with fail
    refine (HSL.out _ HB0.out).mono ?_
    rintro e w1 ⟨rfl, hb1⟩
    have hb2 := below_trans HB0.out hb1
    have x0 : w1.cell? ⟨w.heap.size, 0, none⟩ = some (.slice A1 n1 c1) := (HBG.out.keep hb1).cell 0
    have x1 : w1.cell? ⟨w.heap.size, 1, none⟩ = some (.slice A2 n2 c2) := (HBG.out.keep hb1).cell 1
    have y0 : w1.cell? ⟨w.heap.size + 1, 0, none⟩ = some (.int .i64 a.start) := (HBA.out.keep hb1).cell 0
    have y1 : w1.cell? ⟨w.heap.size + 1, 1, none⟩ = some (.slice A3 a.accept.length c3) := (HBA.out.keep hb1).cell 1
    have y2 : w1.cell? ⟨w.heap.size + 1, 2, none⟩ = some (.slice A4 n4 c4) := (HBA.out.keep hb1).cell 2
    have HBG1 := Lib.hid (HBG.out.keep hb1)
    have HBA1 := Lib.hid (HBA.out.keep hb1)
    have HBR1 := Lib.hid (HBR.out.keep hb1)
    clear hb1 HBX
    go_wp2_with fail
    refine (HBK.out _ hb2).mono ?_
    rintro e w2 ⟨vB, rfl, hoB, hb3⟩
    have hb4 := below_trans hb2 hb3
    have HOB := Lib.hid (hoB.sl cI_len)
    obtain ⟨A6, n6, c6, rfl⟩ := hoB.shape
    have HBG2 := Lib.hid (HBG1.out.keep hb3)
    have HBA2 := Lib.hid (HBA1.out.keep hb3)
    have HBR2 := Lib.hid (HBR1.out.keep hb3)
    have HB4 := Lib.hid hb4
    have y0 : w2.cell? ⟨w.heap.size + 1, 0, none⟩ = some (.int .i64 (s0 : Int)) := by rw [← HS00.out]; exact HBA2.out.cell 0
    have hbs := hb4.size
    clear hb2 hb3 hb4 hoB x0 x1 y1 y2
    have ly := HBA2.out.lt
    have lr := HBR2.out.lt
    have HBW2 := Lib.hid (Blk.new w2 43 #[.int .i64 (x : Int), .slice none 0 0] w2.heap.size rfl)
    have HBN2 := Lib.hid ((Below.refl w2.heap.size w2).alloc (Nat.le_refl _) (.cells #[.int .i64 (x : Int), .slice none 0 0] 43))
    have e1 := HE1.out
    go_wp2_with fail
    try rw [HE2.out]
    try rw [HE1.out]
    obtain ⟨bW, hbW⟩ : ∃ bW, bW = w2.heap.size := ⟨_, rfl⟩
    rw [← hbW] at HBW2 HBN2 ly lr hbs ⊢
    have HBWe := Lib.hid hbW
    clear hbW e1 y0
    go_loopw [10, 14, 15] (fun ll nn ss wr => ∃ (f x' s' : Nat) (O : List St) (oo : Value), ll = .int .i64 (f : Int) ∧ nn = .int .i64 (x' : Int) ∧ ss = .int .i64 (s' : Int) ∧ x' < g.vals.length ∧ s' < 2 ^ a.accept.length ∧ O ++ lwL g a D f x' s' = SS ∧ O.length + f ≤ L ∧
        Blk wr bW 43 #[.int .i64 (x : Int), oo] ∧ wr.ownsRow (bW + 1) 74 2 oo O.length (O.flatMap cSt) ∧ Below bW w2 wr) (fun ll _ _ _ => (intOf ll).toNat)
    case atStart => exact ⟨L, x, bit s0, [], _, rfl, rfl, rfl, hxl, HS0.out, HSS.out.symm, by simp, HBW2.out, World.ownsRow_nil _ _ _ _, HBN2.out⟩
    case round =>
      obtain ⟨f1, x', s', O, oo, rfl, rfl, rfl, hxl', hs', hO, hOl, hbw, hrow, hbel⟩ := hrel
      have hsz := hbel.size
      rw [← HBWe.out] at hsz
      have lw := hbw.lt
      have hbelW := HB4.out.trans (hbel.mono (show w.heap.size ≤ bW by omega))
      cases f1 with
      | zero =>
        have hOe : O = SS := by rw [← hO]; simp [lwL]
        have hown := Own.of_row (xs := O) hrow rfl rfl
        rw [hOe] at hown
        obtain ⟨A9, n9, c9, rfl⟩ := hown.shape
        have HOW := Lib.hid hown
        have hbr := HBR2.out.keep (HBWe.out ▸ hbel)
        have w0 : wr.cell? ⟨bW, 0, none⟩ = some (.int .i64 (x : Int)) := hbw.cell 0
        have w1 : wr.cell? ⟨bW, 1, none⟩ = some (.slice A9 n9 c9) := hbw.cell 1
        have q0 : ((wr.setCell ⟨w.heap.size + 1 + 1, 0, none⟩ (.int .i64 (x : Int))).setCell ⟨w.heap.size + 1 + 1, 1, none⟩ (.slice A9 n9 c9)).cell? ⟨w.heap.size + 1 + 1, 0, none⟩ = some (.int .i64 (x : Int)) := by simpa using ((hbr.set_ 0 (.int .i64 (x : Int))).set_ 1 (.slice A9 n9 c9)).cell 0
        have q1 : ((wr.setCell ⟨w.heap.size + 1 + 1, 0, none⟩ (.int .i64 (x : Int))).setCell ⟨w.heap.size + 1 + 1, 1, none⟩ (.slice A9 n9 c9)).cell? ⟨w.heap.size + 1 + 1, 1, none⟩ = some (.slice A9 n9 c9) := by simpa using ((hbr.set_ 0 (.int .i64 (x : Int))).set_ 1 (.slice A9 n9 c9)).cell 1
        have fr0 := hbr.frozen 0
        have fr1 := hbr.frozen 1
        have q2 : (wr.setCell ⟨w.heap.size + 1 + 1, 0, none⟩ (.int .i64 (x : Int))).cell? ⟨w.heap.size + 1 + 1, 0, none⟩ = some (.int .i64 (x : Int)) := by simpa using (hbr.set_ 0 (.int .i64 (x : Int))).cell 0
        have HQ := Lib.hid (And.intro q0 (And.intro q1 q2))
        clear q0 q1 q2
        have q0 : wr.cell? ⟨w.heap.size + 1 + 1, 0, none⟩ = some (.int .i64 0) := hbr.cell 0
        have q1 : wr.cell? ⟨w.heap.size + 1 + 1, 1, none⟩ = some (.slice none 0 0) := hbr.cell 1
        have lrr := hbr.lt
        have HBEL := Lib.hid hbelW
        have hbn : ∀ b, b ≠ w.heap.size + 1 + 1 → ((wr.setCell ⟨w.heap.size + 1 + 1, 0, none⟩ (.int .i64 (x : Int))).setCell ⟨w.heap.size + 1 + 1, 1, none⟩ (.slice A9 n9 c9)).heap[b]? = wr.heap[b]? := fun b hb => by rw [Below.heap_setCell _ _ _ _ hb, Below.heap_setCell _ _ _ _ hb]
        have HBN := Lib.hid hbn
        clear hO hOe hown hbr hbw hrow hbel hbelW hbn hs'
        go_wp2_with fail
        have HBS := Lib.hid ((HBEL.out.setCell (p := ⟨w.heap.size + 1 + 1, 0, none⟩) (by simp only; omega) (.int .i64 (x : Int))).setCell (p := ⟨w.heap.size + 1 + 1, 1, none⟩) (by simp only; omega) (.slice A9 n9 c9))
        obtain ⟨hq0, hq1, hq2⟩ := HQ.out
        have hwes : ((wr.setCell ⟨w.heap.size + 1 + 1, 0, none⟩ (.int .i64 (x : Int))).setCell ⟨w.heap.size + 1 + 1, 1, none⟩ (.slice A9 n9 c9)).heap.size = wr.heap.size := by simp [World.setCell]
        refine bodyPost_ret (v := .tuple #[.agg #[.int .i64 (x : Int), .slice A9 n9 c9], .bool true]) (by simp [results, Tryz.results70, go_sem, hq0, hq1, hq2]) rfl ⟨_, by rw [HF.out], ?_, HBS.out⟩
        rw [HF.out]
        exact ⟨_, rfl, (own_blocksW HOW.out (fun b hb => HBN.out b (by have := HOW.out.lt b hb; omega))).mono (by omega) (by omega)⟩
      | succ f =>
        have hbW2 := HBWe.out
        have hkeepW := (HBWe.out ▸ hbel : Below w2.heap.size w2 wr)
        have x0 : wr.cell? ⟨w.heap.size, 0, none⟩ = some (.slice A1 n1 c1) := (HBG2.out.keep hkeepW).cell 0
        have x1 : wr.cell? ⟨w.heap.size, 1, none⟩ = some (.slice A2 n2 c2) := (HBG2.out.keep hkeepW).cell 1
        have y0 : wr.cell? ⟨w.heap.size + 1, 0, none⟩ = some (.int .i64 a.start) := (HBA2.out.keep hkeepW).cell 0
        have y1 : wr.cell? ⟨w.heap.size + 1, 1, none⟩ = some (.slice A3 a.accept.length c3) := (HBA2.out.keep hkeepW).cell 1
        have y2 : wr.cell? ⟨w.heap.size + 1, 2, none⟩ = some (.slice A4 n4 c4) := (HBA2.out.keep hkeepW).cell 2
        have qf : ((f + 1 : Nat) : Int) - 1 = (f : Int) := by omega
        have qf2 : IntKind.i64.wrap (((f + 1 : Nat) : Int) - 1) = (f : Int) := by rw [qf]; exact IntWalk.i64_in _ (by omega)
        have qf3 : (0 : Int) < ((f + 1 : Nat) : Int) := by omega
        obtain ⟨F1, hF1⟩ : ∃ F1, F1 = f + 1 := ⟨_, rfl⟩
        rw [← hF1] at qf qf2 qf3 hO hOl ⊢
        have hF1a : f + 1 ≤ F1 := by omega
        have HF1 := Lib.hid hF1
        have HBW := Lib.hid hbw
        have HROW := Lib.hid hrow
        have HBEL := Lib.hid hbel
        have HBELW := Lib.hid hbelW
        have HO := Lib.hid hO
        have HS' := Lib.hid hs'
        clear hbw hrow hbel hbelW hO hkeepW hbW2 hF1 hs'
        go_wp2_with fail
        clear qf2
        refine (l4From_any _ g x' _ (HGV.out.keep HBELW.out) (grOk_iff.1 HGO.out).e12).mono ?_
        rintro e w5 ⟨v5, rfl, ho5, hb5⟩
        obtain ⟨A5, n5, c5, rfl⟩ := ho5.shape
        have hn5e : n5 = (arcsOf g (x' : Int)).length := by
          obtain ⟨_, _, he, -⟩ := ho5.sl cSt_len
          injection he with _ he _
          rw [he, List.length_map]
        rw [hn5e] at ho5 ⊢
        have HO5 := Lib.hid (ho5.sl cSt_len)
        have HRL := Lib.hid (fun b (hb : oo.ownBlock = some b) => HROW.out.lt b hb)
        have HBW5 := Lib.hid (HBW.out.keep hb5)
        have HROW5 := Lib.hid (ownsRow_block HROW.out (fun b hb => hb5.block b (HROW.out.lt b hb).2))
        have HBEL5 := Lib.hid (HBEL.out.trans (hb5.mono hsz))
        have hs5 := hb5.size
        clear ho5 hn5e hb5 x0 x1 y0 y1 y2 HBW HROW HBEL
        have HAL := Lib.hid (arcs_len (grOk_iff.1 HGO.out) (x' : Int))
        go_wp2_with fail
        go_loopw [14, 15, 17, 18] (fun nn ss bb ii wi => ∃ (j x1 s1 : Nat) (b : Bool) (O1 : List St) (o1 : Value), nn = .int .i64 (x1 : Int) ∧ ss = .int .i64 (s1 : Int) ∧ bb = .bool b ∧ ii = .int .i64 (j : Int) ∧ j ≤ (arcsOf g (x' : Int)).length ∧
            Blk wi bW 43 #[.int .i64 (x : Int), o1] ∧ wi.ownsRow (bW + 1) 74 2 o1 O1.length (O1.flatMap cSt) ∧ Below bW w2 wi ∧
            (b = false → x1 = x' ∧ s1 = s' ∧ O1 = O ∧ o1 = oo ∧ Below w5.heap.size w5 wi ∧ ∀ r q, r < j → (arcsOf g (x' : Int))[r]? = some q → keepA g a D f x' s' q = 0) ∧
            (b = true → x1 < g.vals.length ∧ s1 < 2 ^ a.accept.length ∧ O1 ++ lwL g a D f x1 s1 = SS ∧ O1.length + f ≤ L)) (fun _ _ _ ii _ => (arcsOf g (x' : Int)).length - (intOf ii).toNat)
        case atStart => exact ⟨0, x', s', false, O, oo, rfl, rfl, rfl, rfl, Nat.zero_le _, HBW5.out, HROW5.out, HBEL5.out, fun _ => ⟨rfl, rfl, rfl, rfl, Below.refl _ _, fun r q hr => by omega⟩, fun h => by cases h⟩
        case round =>
          clear HBW5 HROW5 HBEL5
          obtain ⟨j, x1, s1, b, O1, o1, rfl, rfl, rfl, rfl, hj, hbw, hrow, hbel, hno, hyes⟩ := hrel
          cases b with
          | true =>
            have hy := hyes rfl
            have HY := Lib.hid hy
            have HBW := Lib.hid hbw
            have HROW := Lib.hid hrow
            have HBEL := Lib.hid hbel
            clear hno hyes hy hbw hrow hbel
            by_cases hlj : j < (arcsOf g (x' : Int)).length
            · have hjj : (j : Int) < ((arcsOf g (x' : Int)).length : Int) := by omega
              go_wp2_with fail
              go_roundw
              case rel => exact ⟨f, x1, s1, O1, o1, rfl, rfl, rfl, HY.out.1, HY.out.2.1, HY.out.2.2.1, HY.out.2.2.2, HBW.out, HROW.out, HBEL.out⟩
              case measure => have := HF1.out; simp [intOf]; omega
            · have hjj : ¬ (j : Int) < ((arcsOf g (x' : Int)).length : Int) := by omega
              go_wp2_with fail
              go_roundw
              case rel => exact ⟨f, x1, s1, O1, o1, rfl, rfl, rfl, HY.out.1, HY.out.2.1, HY.out.2.2.1, HY.out.2.2.2, HBW.out, HROW.out, HBEL.out⟩
              case measure => have := HF1.out; simp [intOf]; omega
          | false =>
            obtain ⟨rfl, rfl, rfl, rfl, hb5w, hmiss⟩ := hno rfl
            clear hyes hno
            by_cases hlj : j < (arcsOf g (x1 : Int)).length
            · have hyi : (arcsOf g (x1 : Int))[j]? = some (arcsOf g (x1 : Int))[j] := List.getElem?_eq_getElem hlj
              have hym := List.getElem_mem hlj
              generalize (arcsOf g (x1 : Int))[j] = p at hyi hym
              have hyr := arc_range (grOk_iff.1 HGO.out) hym
              obtain ⟨e, he, hel, het⟩ := arc_stepEd HGO.out hym
              have HMISS := Lib.hid hmiss
              have HHIT := Lib.hid (fun h => lwL_hit (a := a) (D := D) (f := f) (s := s1) hyi hmiss h)
              have HNEXT := Lib.hid (fun (h : keepA g a D f x1 s1 p = 0) r q (hr : r < j + 1) (hq : (arcsOf g (x1 : Int))[r]? = some q) => show keepA g a D f x1 s1 q = 0 from by
                rcases Nat.lt_or_ge r j with h1 | h1
                · exact hmiss r q h1 hq
                · obtain rfl : r = j := by omega
                  rw [hyi] at hq
                  injection hq with hq
                  rw [← hq]; exact h)
              obtain ⟨⟨sid, sinv⟩, l, t⟩ := p
              simp only at hyr he hel het
              obtain ⟨l, rfl⟩ := Int.eq_ofNat_of_zero_le hyr.1.1
              obtain ⟨t, rfl⟩ := Int.eq_ofNat_of_zero_le hyr.2.1
              have htl : t < g.vals.length := by omega
              have HNX := Lib.hid (fun (W : World) (hW : Below w.heap.size w W) => by
                have h := l18Next_any _ _ g a x1 s1 (sid, sinv) e l W (HGV.out.keep hW) (HAV.out.keep hW) HGO.out HA.out hxl' HS'.out he hel
                rw [het] at h
                exact h)
              have hMl := aft_lt HA.out s1 (valAt g x1) l
              have hM4 := lt12 HA.out hMl
              have hKA : keepA g a D f x1 s1 ((sid, sinv), (l : Int), (t : Int)) = keepTo D a.accept.length t (aft a s1 (valAt g x1) l) f a.accept.length := by rw [keepA, keepK]; simp
              have hKlt : keepA g a D f x1 s1 ((sid, sinv), (l : Int), (t : Int)) < 2 ^ a.accept.length := by rw [hKA]; exact keepTo_lt ..
              have HKE := Lib.hid hKA
              have HKLT := Lib.hid hKlt
              have hK4 := lt12 HA.out hKlt
              obtain ⟨KP, hKP⟩ : ∃ KP, KP = keepA g a D f x1 s1 ((sid, sinv), (l : Int), (t : Int)) := ⟨_, rfl⟩
              rw [← hKP] at HKE HKLT hK4 HHIT HNEXT
              simp only [Int.toNat_natCast] at HHIT
              have hsl := HO5.out.below hb5w (Nat.le_refl _)
              obtain ⟨b8, o8, rfl, hb8, e0, e1⟩ := hsl.stI (i := j) (x := (sid, sinv)) (by rw [List.getElem?_map, hyi]; rfl)
              simp only at e0 e1
              have hkeepW := (HBWe.out ▸ hbel : Below w2.heap.size w2 wr)
              have u0 : wr.cell? ⟨w.heap.size, 0, none⟩ = some (.slice A1 n1 c1) := (HBG2.out.keep hkeepW).cell 0
              have u1 : wr.cell? ⟨w.heap.size, 1, none⟩ = some (.slice A2 n2 c2) := (HBG2.out.keep hkeepW).cell 1
              have v0 : wr.cell? ⟨w.heap.size + 1, 0, none⟩ = some (.int .i64 a.start) := (HBA2.out.keep hkeepW).cell 0
              have v1 : wr.cell? ⟨w.heap.size + 1, 1, none⟩ = some (.slice A3 a.accept.length c3) := (HBA2.out.keep hkeepW).cell 1
              have v2 : wr.cell? ⟨w.heap.size + 1, 2, none⟩ = some (.slice A4 n4 c4) := (HBA2.out.keep hkeepW).cell 2
              have HBW := Lib.hid hbw
              have HROW := Lib.hid hrow
              have HBEL := Lib.hid hbel
              have HB5W := Lib.hid hb5w
              have HBLW := Lib.hid (HB4.out.trans (hbel.mono (show w.heap.size ≤ bW by omega)))
              have HDW := Lib.hid ((HOB.out.below hkeepW (Nat.le_refl _)).all (HBWe.out ▸ hbel.size : w2.heap.size ≤ wr.heap.size))
              have hjj : (j : Int) < ((arcsOf g (x1 : Int)).length : Int) := by omega
              have hsw := hb5w.size
              have hb8w : b8 < wr.heap.size := World.block_lt_of_cell? _ _ e0
              have lw0 : w.heap.size < wr.heap.size := World.block_lt_of_cell? _ _ u0
              have lw1 : w.heap.size + 1 < wr.heap.size := World.block_lt_of_cell? _ _ v0
              have hlw := hbw.lt
              obtain ⟨wq, hwq⟩ : ∃ wq : World, wq = wr := ⟨_, rfl⟩
              rw [← hwq] at HBW HROW HBEL HB5W HBLW HDW u0 u1 v0 v1 v2 e0 e1 hsw hb8w lw0 lw1 hlw ⊢
              clear hwq hbw hrow hbel hb5w hsl hyi hym hmiss he hel het hKA hKlt hKP hkeepW hMl
              go_upto_region 16 with fail
              refine wp_region_ext_lit (by kernel_rfl) (by kernel_rfl) ?_
              repeat (go_big_quiet_step ((go_at_call 75; exact Calls.ext_of (HNX.out _ (below_trans HBLW.out (ext_below _ _))))))
              refine wpQuiet_nil ?_
              intro _ hw'
              obtain ⟨u2, hw''⟩ := hw'
              subst hw''
              have hbU := ext_below wq u2
              have HBU := Lib.hid hbU
              have hal := arcs_len (grOk_iff.1 HGO.out) (x1 : Int)
              have hj24 : j ≤ 24 := by omega
              have hmn : t * a.accept.length + a.accept.length ≤ D.length := by
                rw [HDL.out, ← Nat.succ_mul]
                exact Nat.mul_le_mul_right _ htl
              have HKC := Lib.hid (fun (W : World) (hW : SlE W cI 1 (.slice A6 n6 c6) D) => l18Keep_any _ D a.accept.length t (aft a s1 (valAt g x1) l) f W hW hmn hd60 hn12 hM4 (by omega))
              rw [← HKE.out] at HKC
              generalize aft a s1 (valAt g x1) l = MM at *
              clear hmn hbU
              go_wp2_with fail
              refine (HKC.out _ (HDW.out.keep HBU.out)).mono ?_
              rintro e w7 ⟨rfl, hb7⟩
              have hbx := below_trans HBU.out hb7
              by_cases hz : KP = 0
              · have HNZ := Lib.hid (HNEXT.out hz)
                subst hz
                have HBX := Lib.hid hbx
                clear hbx hb7
                go_wp2_with fail
                go_roundw
                case rel => exact ⟨j + 1, x1, s1, false, O1, o1, rfl, rfl, rfl, by go_num, by omega, HBW.out.keep HBX.out, ownsRow_block HROW.out (fun b hb => HBX.out.block b (HROW.out.lt b hb).2), HBEL.out.trans (HBX.out.mono (Nat.le_of_lt hlw)), fun _ => ⟨rfl, rfl, rfl, rfl, HB5W.out.trans (HBX.out.mono hsw), HNZ.out⟩, fun h => by cases h⟩
                case measure => simp [intOf]; omega
              · have hzb : (KP : Int) ≠ 0 := by omega
                have hzn : ((KP : Int) != 0) = true := by simpa using hz
                have HH := Lib.hid (HHIT.out hz)
                obtain ⟨A9, n9, c9, ho1⟩ := (Own.of_row (xs := O1) HROW.out rfl rfl).shape
                subst ho1
                have v1 : wq.cell? ⟨bW, 1, none⟩ = some (.slice A9 n9 c9) := HBW.out.cell 1
                have v1 := kcell hbx v1
                have s0 := kcell hbx e0
                have s1c := kcell hbx e1
                have HBWX := Lib.hid (HBW.out.keep hbx)
                have HROWX := Lib.hid (ownsRow_block HROW.out (fun b hb => hbx.block b (HROW.out.lt b hb).2))
                have HBELX := Lib.hid (HBEL.out.trans (hbx.mono (Nat.le_of_lt hlw)))
                have hsx := hbx.size
                have hO60 : O1.length ≤ 60 := by omega
                have hrl := HRL.out
                have lWx : bW < w7.heap.size := by omega
                have hHRL : ∀ b, (Value.slice A9 n9 c9).ownBlock = some b → bW + 1 ≤ b ∧ b < wq.heap.size := fun b hb => ⟨(hrl b hb).1, by have := (HROW.out.lt b hb).2; omega⟩
                have HR2 := Lib.hid hHRL
                clear hbx hb7 e0 e1 u0 u1 v0 v2 hHRL hrl
                go_upto_region 19 with fail
                refine F_start 9 (fun w' => w'.cell? ⟨bW, 1, none⟩ = some (.slice A9 n9 c9) ∧ w'.cell? ⟨b8, o8 + j * 2, none⟩ = some (.int .i64 sid) ∧ w'.cell? ⟨b8, o8 + j * 2 + 1, none⟩ = some (.bool sinv)) (by kernel_rfl) (by exact ⟨v1, s0, s1c⟩) (fun hS inv => ?_)
                refine F_take (i := 0) (v := ?_) rfl (by kernel_rfl) (by kernel_rfl) (by kernel_rfl) (fun _ _ _ h => h) inv (Or.inl ⟨by rfl, ?_⟩) (by assumption) (fun invn => ?_)
                rotate_left
                · (intro w hSw; (try dsimp only at hSw); go_simp; try with_reducible rfl)
                try simp only [List.getElem_toArray, List.getElem_cons_zero, List.getElem_cons_succ, Act.put, List.setIfInBounds_toArray, List.set_cons_zero, List.set_cons_succ]
                clear inv
                have inv := invn
                clear invn
                refine F_take (i := 1) (v := ?_) rfl (by kernel_rfl) (by kernel_rfl) (by kernel_rfl) (fun _ _ _ h => h) inv (Or.inl ⟨by rfl, ?_⟩) (by assumption) (fun invn => ?_)
                rotate_left
                · (intro w hSw; (try dsimp only at hSw); go_simp; try with_reducible rfl)
                try simp only [List.getElem_toArray, List.getElem_cons_zero, List.getElem_cons_succ, Act.put, List.setIfInBounds_toArray, List.set_cons_zero, List.set_cons_succ]
                clear inv
                have inv := invn
                clear invn
                refine F_take (i := 2) (v := ?_) rfl (by kernel_rfl) (by kernel_rfl) (by kernel_rfl) (fun _ _ _ h => h) inv (Or.inl ⟨by rfl, ?_⟩) (by assumption) (fun invn => ?_)
                rotate_left
                · (intro w hSw; (try dsimp only at hSw); go_simp; try with_reducible rfl)
                try simp only [List.getElem_toArray, List.getElem_cons_zero, List.getElem_cons_succ, Act.put, List.setIfInBounds_toArray, List.set_cons_zero, List.set_cons_succ]
                clear inv
                have inv := invn
                clear invn
                refine F_take (i := 3) (v := ?_) rfl (by kernel_rfl) (by kernel_rfl) (by kernel_rfl) (fun _ _ _ h => h) inv (Or.inl ⟨by rfl, ?_⟩) (by assumption) (fun invn => ?_)
                rotate_left
                · (intro w hSw; (try dsimp only at hSw); go_simp; try with_reducible rfl)
                try simp only [List.getElem_toArray, List.getElem_cons_zero, List.getElem_cons_succ, Act.put, List.setIfInBounds_toArray, List.set_cons_zero, List.set_cons_succ]
                clear inv
                have inv := invn
                clear invn
                refine F_take (i := 4) (v := ?_) rfl (by kernel_rfl) (by kernel_rfl) (by kernel_rfl) (fun _ _ _ h => h) inv (Or.inl ⟨by rfl, ?_⟩) (by assumption) (fun invn => ?_)
                rotate_left
                · (intro w hSw; (try dsimp only at hSw); go_simp; try with_reducible rfl)
                try simp only [List.getElem_toArray, List.getElem_cons_zero, List.getElem_cons_succ, Act.put, List.setIfInBounds_toArray, List.set_cons_zero, List.set_cons_succ]
                clear inv
                have inv := invn
                clear invn
                refine F_take (i := 5) (v := ?_) rfl (by kernel_rfl) (by kernel_rfl) (by kernel_rfl) (fun _ _ _ h => h) inv (Or.inl ⟨by rfl, ?_⟩) (by assumption) (fun invn => ?_)
                rotate_left
                · (intro w hSw; (try dsimp only at hSw); go_simp; try with_reducible rfl)
                try simp only [List.getElem_toArray, List.getElem_cons_zero, List.getElem_cons_succ, Act.put, List.setIfInBounds_toArray, List.set_cons_zero, List.set_cons_succ]
                clear inv
                have inv := invn
                clear invn
                refine F_one (i := 6) (by kernel_rfl) rfl rfl (by omega) inv (fun K hK => ?_)
                try simp only [List.getElem_toArray, List.getElem_cons_zero, List.getElem_cons_succ]
                go_simp
                refine hK.out _ _ (kA3 _ hS) (fun hSn invn => ?_)
                try simp only [List.getElem_toArray, List.getElem_cons_zero, List.getElem_cons_succ, Act.put, List.setIfInBounds_toArray, List.set_cons_zero, List.set_cons_succ]
                clear hK K inv hS
                have inv := invn
                have hS := hSn
                clear invn hSn
                refine F_one (i := 7) (by kernel_rfl) rfl rfl (by omega) inv (fun K hK => ?_)
                try simp only [List.getElem_toArray, List.getElem_cons_zero, List.getElem_cons_succ]
                refine op_append1 cSt elStW rfl _ _ (by rfl) (bW + 1) (.slice A9 n9 c9) O1 (sid, sinv) 1 _ (by rfl) (show ((w7.alloc (.cells #[.int .i64 sid, .bool sinv] 74)).drew).ownsRow (bW + 1) 74 2 (.slice A9 n9 c9) O1.length (O1.flatMap cSt) from HROWX.out.alloc _) (by first | rfl | simp) (heap_alloc_new _ _) rfl (cSt_one _) (by omega) (by omega) (by simp; omega) ?_
                intro g2 cp2 w3 hown3 hgr3 hat3 hlt3
                have hrl := HR2.out
                have g3 : ∀ b, b < w7.heap.size → (Value.slice A9 n9 c9).ownBlock ≠ some b → w3.heap[b]? = w7.heap[b]? := fun b hb hn => (hgr3.block b (by simp; omega) (fun e => hn e.symm)).trans (Below.heap_alloc w7 _ b hb)
                have hs3 : w7.heap.size < w3.heap.size := by have := hgr3.size; simp at this; omega
                have nw : (Value.slice A9 n9 c9).ownBlock ≠ some bW := fun e => by have := hrl _ e; omega
                have n8 : (Value.slice A9 n9 c9).ownBlock ≠ some b8 := fun e => by have := HRL.out _ e; omega
                have hbw3 : Blk w3 bW 43 #[.int .i64 (x : Int), .slice A9 n9 c9] := (g3 bW (by omega) nw).trans HBWX.out
                have v1' : w3.cell? ⟨bW, 1, none⟩ = some (.slice A9 n9 c9) := hbw3.cell 1
                have f1' := hbw3.frozen 1
                have l1' := hbw3.lt
                refine hK.out _ _ (⟨hgr3.cell hS.1 (fun e => by have := hrl _ e.symm; simp only at this; omega), hgr3.cell hS.2.1 (fun e => by have := HRL.out _ e.symm; simp only at this; omega), hgr3.cell hS.2.2 (fun e => by have := HRL.out _ e.symm; simp only at this; omega)⟩) (fun hSn invn => ?_)
                try simp only [List.getElem_toArray, List.getElem_cons_zero, List.getElem_cons_succ, Act.put, List.setIfInBounds_toArray, List.set_cons_zero, List.set_cons_succ]
                clear hK K inv hS
                have inv := invn
                have hS := hSn
                clear invn hSn
                refine F_take (i := 8) (v := ?_) rfl (by kernel_rfl) (by kernel_rfl) (by kernel_rfl) (fun _ _ _ h => h) inv (Or.inl ⟨by rfl, ?_⟩) (by assumption) (fun invn => ?_)
                rotate_left
                · (intro w hSw; (try dsimp only at hSw); go_simp; try with_reducible rfl)
                try simp only [List.getElem_toArray, List.getElem_cons_zero, List.getElem_cons_succ, Act.put, List.setIfInBounds_toArray, List.set_cons_zero, List.set_cons_succ]
                clear inv
                have inv := invn
                clear invn
                refine F_last (i := 9) (by kernel_rfl) rfl rfl (by omega) (by kernel_rfl) (fun K hK => ?_)
                go_simp
                refine hK _ _ ?_
                clear hK K inv hS
                obtain ⟨w4, hw4⟩ : ∃ w4, w4 = w3.setCell ⟨bW, 1, none⟩ (.slice (some ⟨g2, 0, none⟩) (O1.length + 1) cp2) := ⟨_, rfl⟩
                have hs4w : w3.heap.size = w4.heap.size := by rw [hw4]; simp [World.setCell]
                have g4 : ∀ b, b < w3.heap.size → b ≠ bW → w4.heap[b]? = w3.heap[b]? := fun b hb hne => by rw [hw4]; exact Below.heap_setCell w3 ⟨bW, 1, none⟩ _ b hne
                have hbw4 : Blk w4 bW 43 #[.int .i64 (x : Int), .slice (some ⟨g2, 0, none⟩) (O1.length + 1) cp2] := by
                  have h := hbw3.set_ 1 (.slice (some ⟨g2, 0, none⟩) (O1.length + 1) cp2)
                  rw [← hw4] at h
                  simpa using h
                have hg2 : g2 ≠ bW := by
                  rcases hat3 with h | h
                  · have := hrl g2 h; omega
                  · simp at h; omega
                have hrow4 := ownsRow_block (w' := w4) hown3 (fun b hb => by
                  have he : g2 = b := by simpa [Value.ownBlock] using hb
                  exact g4 b (by omega) (by rw [← he]; exact hg2))
                have hbl4 : Below bW w2 w4 := by
                  rw [hw4]
                  have h1 : Below bW w2 ((w7.alloc (.cells #[.int .i64 sid, .bool sinv] 74)).drew) := (HBELX.out.alloc (by omega) _).drew
                  exact (h1.grown hgr3 (by simp; omega) (fun b hb => by have := hrl b hb; omega)).setCell (by simp only; omega) _
                have HBW4 := Lib.hid hbw4
                have HROW4 := Lib.hid hrow4
                have HBL4 := Lib.hid hbl4
                rw [← hw4]
                clear hw4 hbw4 hrow4 hbl4 g4 g3 hbw3 v1' f1' l1' hown3 hgr3 hat3 hlt3 hrl nw n8 v1 s0 s1c
                go_wp2_with fail
                go_roundw
                case rel =>
                  refine ⟨j + 1, t, KP, true, O1 ++ [(sid, sinv)], _, rfl, rfl, rfl, by go_num, by omega, HBW4.out, HROW4.out, HBL4.out, (fun h => by cases h), fun _ => ⟨htl, HKLT.out, ?_, by simp; omega⟩⟩
                  have h := HO.out
                  rw [HF1.out, HH.out] at h
                  rw [List.append_assoc]; exact h
                case measure => simp [intOf]; omega
            · obtain rfl : j = (arcsOf g (x1 : Int)).length := by omega
              have HM := Lib.hid (lwL_miss hmiss)
              have HBW := Lib.hid hbw
              have HROW := Lib.hid hrow
              have HBEL := Lib.hid hbel
              have hjj : ¬ ((arcsOf g (x1 : Int)).length : Int) < ((arcsOf g (x1 : Int)).length : Int) := by omega
              clear hbw hrow hbel hb5w hmiss
              go_wp2_with fail
              go_roundw
              case rel => exact ⟨f, x1, s1, O1, o1, rfl, rfl, rfl, hxl', HS'.out, by rw [← HM.out, ← HF1.out]; exact HO.out, by omega, HBW.out, HROW.out, HBEL.out⟩
              case measure => have := HF1.out; simp [intOf]; omega
end Go.Proofs.YtallglnmeeahiaaGreat
namespace Go.Proofs.YtallglnmeeahiaaGreat
set_option linter.unusedVariables false
set_option linter.unusedSimpArgs false
open Go.ChangeShapes Go.WideShapes Go.ChangeAt Go.RowKit
attribute [local go_sem] ext_cell ext_frozen ext_lt ext_lt1 ext_lt2 ext_lt3 ltn2 ltn3 ltn13 lts1 lts2 lts3
/-- a walk under way: in the block q; the graph's box B, the result's block r -/
structure WkR (b B r q : Nat) (w0 w : World) (gs : Array Value) (st : Int) (ss : Value) (L : List St) : Prop where
  box : Blk w B 27 gs
  res : Blk w r 43 #[.int .i64 0, .slice none 0 0]
  blk : Blk w q 43 #[.int .i64 st, ss]
  row : w.ownsRow (q + 1) 74 2 ss L.length (L.flatMap cSt)
  cur : Cur w b
  only : Only b (b + 1) w0 w
  at0 : w0.heap.size ≤ r
  ord : b < w0.heap.size ∧ b < B ∧ b < r ∧ b < q ∧ B < q ∧ r < q ∧ B ≠ r
section
variable {b B r q : Nat} {w0 w w' : World} {gs : Array Value} {st : Int} {ss : Value} {L : List St}
theorem WkR.move (h : WkR b B r q w0 w gs st ss L) (ho : Only b (b + 1) w w') (hc : Cur w' b) : WkR b B r q w0 w' gs st ss L := by
  have hd := h.ord
  exact ⟨h.box.only ho (.inr (by omega)), h.res.only ho (.inr (by omega)), h.blk.only ho (.inr (by omega)), own_only h.row ho (by omega), hc, h.only.trans ho, h.at0, hd⟩
theorem WkR.below (h : WkR b B r q w0 w gs st ss L) (hb : Below w.heap.size w w') : WkR b B r q w0 w' gs st ss L :=
  ⟨h.box.keep hb, h.res.keep hb, h.blk.keep hb, ownsRow_below h.row hb (Nat.le_refl _), h.cur.keep hb, h.only.trans (Only.of_below hb _ _), h.at0, h.ord⟩
theorem WkR.alloc (h : WkR b B r q w0 w gs st ss L) (o : Obj) : WkR b B r q w0 (w.alloc o) gs st ss L := h.below ((Below.refl _ _).alloc (Nat.le_refl _) _)
theorem WkR.push {L' : List St} {g n c : Nat} (h : WkR b B r q w0 w gs st ss L) (hr : w'.ownsRow (q + 1) 74 2 (.slice (some ⟨g, 0, none⟩) n c) L'.length (L'.flatMap cSt)) (hg : w.grownBy w' ss.ownBlock) (hat : ss.ownBlock = some g ∨ w.heap.size ≤ g) :
    Blk w' q 43 #[.int .i64 st, ss] ∧ WkR b B r q w0 (w'.setCell ⟨q, 1, none⟩ (.slice (some ⟨g, 0, none⟩) n c)) gs st (.slice (some ⟨g, 0, none⟩) n c) L' := by
  have hd := h.ord
  have hq := h.blk.lt
  have hb := own_below h.row (by omega) hg
  have hgq : g ≠ q := by have := (hr.lt g rfl).1; omega
  have hbq : Blk w' q 43 #[.int .i64 st, ss] := h.blk.below hb (by omega)
  exact ⟨hbq, (h.box.below hb (by omega)).far (by simp only; omega) _, (h.res.below hb (by omega)).far (by simp only; omega) _, hbq.set_ 1 _, ownsRow_block hr (fun g' hg' => by cases hg'; exact Below.heap_setCell w' ⟨q, 1, none⟩ _ g hgq), (h.cur.below hb (by omega)).set (by simp only; omega) _,
    (h.only.andBelow hb (by have := h.at0; omega)).setCell (.inr (by have := h.at0; simp only; omega)) _, h.at0, hd⟩
theorem WkR.done (h : WkR b B r q w0 w gs st ss L) : WkO w0.heap.size ((w.setCell ⟨r, 0, none⟩ (.int .i64 st)).setCell ⟨r, 1, none⟩ ss).heap.size ((w.setCell ⟨r, 0, none⟩ (.int .i64 st)).setCell ⟨r, 1, none⟩ ss) (.agg #[.int .i64 st, ss]) (st, L) ∧
    Cur ((w.setCell ⟨r, 0, none⟩ (.int .i64 st)).setCell ⟨r, 1, none⟩ ss) b ∧ Only b (b + 1) w0 ((w.setCell ⟨r, 0, none⟩ (.int .i64 st)).setCell ⟨r, 1, none⟩ ss) := by
  have hd := h.ord
  have ha := h.at0
  have hq := h.blk.lt
  have hp := Only.put2 w r (.int .i64 st) ss
  refine ⟨⟨ss, rfl, (Own.of_row (xs := L) (own_only h.row hp (by omega)) rfl rfl).mono (by omega) (Nat.le_refl _)⟩, h.cur.only hp (by omega), (h.only.setCell (p := ⟨r, 0, none⟩) (.inr (by simp only; omega)) _).setCell (p := ⟨r, 1, none⟩) (.inr (by simp only; omega)) _⟩
end
set_option maxHeartbeats 4000000 in
theorem l5Walk_any (b : Nat) (vg : Value) (g : Gr) (w : World) (hc : Cur w b) (hgv : GrV (b + 1) w.heap.size w vg g) (he : g.edges.length ≤ 12) :
    Calls Tryz.prog 71 #[.pointer (some ⟨b, 0, none⟩), vg] w fun e w' => ∃ v k, e = .returned v ∧ WkO w.heap.size w'.heap.size w' v k ∧ k.2.length ≤ 6 ∧ Cur w' b ∧ Only b (b + 1) w w' := by
  have HGV := Lib.hid hgv
  obtain ⟨vs, es, rfl, ⟨A1, c1, rfl, hl1, hm1, -⟩, h2⟩ := hgv
  obtain ⟨A2, n2, c2, rfl⟩ := h2.shape
  obtain ⟨n1, hn1⟩ : ∃ n1, n1 = g.vals.length := ⟨_, rfl⟩
  rw [← hn1] at hl1 HGV ⊢
  unfold maxLen at hm1
  clear h2 hn1
  have hlt := hc.lt
  have hb0 := ((Below.refl w.heap.size w).alloc (Nat.le_refl _) (.cells #[.slice A1 n1 c1, .slice A2 n2 c2] 27)).alloc (by simp) (.cells #[.int .i64 0, .slice none 0 0] 43)
  have hbx := (Blk.new w 27 #[.slice A1 n1 c1, .slice A2 n2 c2] _ rfl).alloc (.cells #[.int .i64 0, .slice none 0 0] 43)
  have hbr := Blk.new (w.alloc (.cells #[.slice A1 n1 c1, .slice A2 n2 c2] 27)) 43 #[.int .i64 0, .slice none 0 0] (w.heap.size + 1) (by simp)
  go_enter Tryz.func71, Tryz.ntmps71
  go_wp2_with fail
  all_goals
    refine (l1Below_any b _ _ (hc.keep hb0)).mono ?_
    rintro e w1 ⟨st, rfl, -, hc1, ho1⟩
    have hbx1 := hbx.only ho1 (.inr (by omega))
    have hbr1 := hbr.only ho1 (.inr (by omega))
    have hl1 := hbr1.lt
    have HR1 := Lib.hid (show WkR b w.heap.size (w.heap.size + 1) w1.heap.size w (w1.alloc (.cells #[.int .i64 st, .slice none 0 0] 43)) #[.slice A1 n1 c1, .slice A2 n2 c2] st (.slice none 0 0) [] from
      ⟨hbx1.alloc _, hbr1.alloc _, Blk.new w1 _ _ _ rfl, World.ownsRow_nil _ _ _ 2, hc1.keep ((Below.refl _ _).alloc (Nat.le_refl _) _), ((Only.of_below hb0 b (b + 1)).trans ho1).alloc _, by omega, by omega⟩)
    clear ho1 hc1 hbx1 hbr1
    go_wp2_with fail
    refine (l1Below_any b 7 _ HR1.out.cur).mono ?_
    rintro e w2 ⟨z, rfl, ⟨hz0, -, hz1⟩, hc2, ho2⟩
    have hz1 := hz1 (by omega)
    obtain ⟨z, rfl⟩ := Int.eq_ofNat_of_zero_le hz0
    have HR2 := Lib.hid (HR1.out.move ho2 hc2)
    clear ho2 hc2 HR1
    go_wp2_with fail
    go_loopw [6, 7] (fun aa nn wr => ∃ (n : Nat) (x : Int) (ss : Value) (L : List St), aa = .int .i64 x ∧ nn = .int .i64 (n : Int) ∧ L.length + n = z ∧ WkR b w.heap.size (w.heap.size + 1) w1.heap.size w wr #[.slice A1 n1 c1, .slice A2 n2 c2] st ss L) (fun _ nn _ => (intOf nn).toNat)
    case atStart => exact ⟨z, st, _, [], rfl, rfl, by simp, HR2.out⟩
    case round =>
      obtain ⟨n, x, ss, L, rfl, rfl, hn, hR⟩ := hrel
      have HR := Lib.hid hR
      clear hR HR2
      obtain ⟨A3, n3, c3, rfl⟩ := rowShape HR.out.row
      have x0 : wr.cell? ⟨w.heap.size, 0, none⟩ = some (.slice A1 n1 c1) := HR.out.box.cell 0
      have x1 : wr.cell? ⟨w.heap.size, 1, none⟩ = some (.slice A2 n2 c2) := HR.out.box.cell 1
      have y0 : wr.cell? ⟨w1.heap.size, 0, none⟩ = some (.int .i64 st) := HR.out.blk.cell 0
      have y1 : wr.cell? ⟨w1.heap.size, 1, none⟩ = some (.slice A3 n3 c3) := HR.out.blk.cell 1
      rcases Nat.eq_zero_or_pos n with rfl | h0
      · have z0 : wr.cell? ⟨w.heap.size + 1, 0, none⟩ = some (.int .i64 0) := HR.out.res.cell 0
        have z1 : wr.cell? ⟨w.heap.size + 1, 1, none⟩ = some (.slice none 0 0) := HR.out.res.cell 1
        have v0 := HR.out.res.frozen 0
        have v1 := HR.out.res.frozen 1
        have hlr := HR.out.res.lt
        go_wp2_with fail
        have HD := HR.out.done
        refine bodyPost_ret (v := .agg #[.int .i64 st, .slice A3 n3 c3]) (by simp [results, Tryz.results71, go_sem, z0, z1, v0, v1]) rfl ⟨_, _, rfl, HD.1, by simp only; omega, HD.2.1, HD.2.2⟩
      · have hni : 0 < (n : Int) := by omega
        go_wp2_with fail
        refine (l4From_any _ g x _ (((HGV.out.only HR.out.only (Nat.le_refl _) (.inr (Nat.le_refl _))).mono (Nat.zero_le _) HR.out.only.size)) he).mono ?_
        rintro e w3 ⟨v3, rfl, hov, hb3⟩
        have HR3 := Lib.hid (HR.out.below hb3)
        generalize (arcsOf g x).map (·.1) = M at hov
        obtain ⟨A4, c4, rfl, hl4, hm4, hx4⟩ := hov.sl cSt_len
        unfold maxLen at hm4
        obtain ⟨m, hm⟩ : ∃ m, m = M.length := ⟨_, rfl⟩
        rw [← hm] at hl4
        have HM := Lib.hid hm
        have HX := Lib.hid hx4
        have hs3 := hb3.size
        have y0 : w3.cell? ⟨w1.heap.size, 0, none⟩ = some (.int .i64 st) := HR3.out.blk.cell 0
        have y1 : w3.cell? ⟨w1.heap.size, 1, none⟩ = some (.slice A3 n3 c3) := HR3.out.blk.cell 1
        rw [← hm]
        clear hov hx4 hb3 hm x0 x1
        rcases Nat.eq_zero_or_pos m with rfl | hm0
        · have z0 : w3.cell? ⟨w.heap.size + 1, 0, none⟩ = some (.int .i64 0) := HR3.out.res.cell 0
          have z1 : w3.cell? ⟨w.heap.size + 1, 1, none⟩ = some (.slice none 0 0) := HR3.out.res.cell 1
          have v0 := HR3.out.res.frozen 0
          have v1 := HR3.out.res.frozen 1
          have hlr := HR3.out.res.lt
          go_wp2_with fail
          have HD := HR3.out.done
          refine bodyPost_ret (v := .agg #[.int .i64 st, .slice A3 n3 c3]) (by simp [results, Tryz.results71, go_sem, z0, z1, v0, v1]) rfl ⟨_, _, rfl, HD.1, by simp only; omega, HD.2.1, HD.2.2⟩
        · clear y0 y1
          go_wp2_with fail
          refine (l1Below_any b _ _ HR3.out.cur).mono ?_
          rintro e w4 ⟨i, rfl, ⟨hi0, -, hi1⟩, hc4, ho4⟩
          have hi1 := hi1 (by omega)
          obtain ⟨i, rfl⟩ := Int.eq_ofNat_of_zero_le hi0
          have hi : i < M.length := by have := HM.out; omega
          have hxi : M[i]? = some M[i] := List.getElem?_eq_getElem hi
          obtain ⟨q, o, rfl, hq0, hq1, hcc⟩ := HX.out i _ hxi
          generalize M[i] = s at hcc
          obtain ⟨s1, s2⟩ := s
          have e0 := (ho4.cell (p := ⟨q, o + i * 2 + 0, none⟩) hq1 (.inr (by simp only; have := HR.out.only.size; omega))).trans (hcc 0 _ rfl)
          have e1 := (ho4.cell (p := ⟨q, o + i * 2 + 1, none⟩) hq1 (.inr (by simp only; have := HR.out.only.size; omega))).trans (hcc 1 _ rfl)
          simp only [Nat.add_zero] at e0
          have HR4 := Lib.hid (HR3.out.move ho4 hc4)
          have hs4 := ho4.size
          clear hcc hxi ho4 hc4
          have hal := (Below.refl w4.heap.size w4).alloc (Nat.le_refl _) (.cells #[.int .i64 s1, .bool s2] 74)
          have HR5 := Lib.hid (HR4.out.below hal)
          have hbs := Blk.new w4 74 #[.int .i64 s1, .bool s2] _ rfl
          go_upto_region 10 with fail
          clear e0 e1
          have hgv5 := (HGV.out.only HR5.out.only (Nat.le_refl _) (.inr (Nat.le_refl _))).mono (Nat.zero_le _) HR5.out.only.size
          have HGV5 := Lib.hid hgv5
          generalize w4.alloc (.cells #[.int .i64 s1, .bool s2] 74) = w5 at *
          have d0 : w5.cell? ⟨w4.heap.size, 0, none⟩ = some (.int .i64 s1) := hbs.cell 0
          have d1 : w5.cell? ⟨w4.heap.size, 1, none⟩ = some (.bool s2) := hbs.cell 1
          have y1 : w5.cell? ⟨w1.heap.size, 1, none⟩ = some (.slice A3 n3 c3) := HR5.out.blk.cell 1
          have hls := hbs.lt
          have HBS := Lib.hid hbs
          clear hgv5 hbs hal
          have HNE := Lib.hid (show (Value.slice A3 n3 c3).ownBlock ≠ some w4.heap.size from fun e => by have := (HR4.out.row.lt _ e).2; omega)
          go_upto_region 11 with (at_builtin; (refine wpList_append2 cSt elStep rfl _ _ (by rfl) (w1.heap.size + 1) _ L (s1, s2) 1 _ (by rfl) (HR5.out.row.alloc _) (by rfl) (heap_alloc_new _ _) rfl (cSt_one _) (by omega) (by omega) (by have := HR5.out.blk.lt; simp; omega) ?_); intro g2 cp2 w9 hown3 hgr3 hat3 hlt3
                                  have hal6 := (Below.refl w5.heap.size w5).alloc (Nat.le_refl _) (.cells #[.int .i64 s1, .bool s2] 74)
                                  have HP := Lib.hid ((HR5.out.below hal6).push hown3 hgr3 hat3)
                                  have HS9 := Lib.hid (show Blk w9 w4.heap.size _ _ from (hgr3.block _ (by simp; omega) (fun e => HNE.out e.symm)).trans (HBS.out.keep hal6))
                                  have f1 := HP.out.1.frozen 1
                                  have y9 : w9.cell? ⟨w1.heap.size, 1, none⟩ = some (.slice A3 n3 c3) := HP.out.1.cell 1
                                  have lp := HP.out.1.lt
                                  clear hal6 hown3 hgr3 hat3)
          have HW := Lib.hid HP.out.2
          have hbs := HS9.out.far (p := ⟨w1.heap.size, 1, none⟩) (by have := HR4.out.blk.lt; simp only; omega) (.slice (some ⟨g2, 0, none⟩) (L.length + 1) cp2)
          generalize w9.setCell ⟨w1.heap.size, 1, none⟩ (.slice (some ⟨g2, 0, none⟩) (L.length + 1) cp2) = w10 at *
          have d0 : w10.cell? ⟨w4.heap.size, 0, none⟩ = some (.int .i64 s1) := hbs.cell 0
          have d1 : w10.cell? ⟨w4.heap.size, 1, none⟩ = some (.bool s2) := hbs.cell 1
          have x0 : w10.cell? ⟨w.heap.size, 0, none⟩ = some (.slice A1 n1 c1) := HW.out.box.cell 0
          have x1 : w10.cell? ⟨w.heap.size, 1, none⟩ = some (.slice A2 n2 c2) := HW.out.box.cell 1
          clear f1 y9 lp hbs y1 HP HS9 HBS HNE
          go_wp2_with fail
          refine (specStepTo _ g (s1, s2) _ ((HGV.out.only HW.out.only (Nat.le_refl _) (.inr (Nat.le_refl _))).mono (Nat.zero_le _) HW.out.only.size)).mono ?_
          rintro e w11 ⟨rfl, hb11⟩
          have HW11 := Lib.hid (HW.out.below hb11)
          clear hb11 d0 d1 x0 x1
          go_wp2_with fail
          go_roundw
          case rel =>
            refine ⟨n - 1, _, _, _, rfl, ?_, ?_, HW11.out⟩
            · congr 1; omega
            · simp; omega
          case measure => simp [intOf]; omega
end Go.Proofs.YtallglnmeeahiaaGreat
namespace Go.Proofs.YtallglnmeeahiaaGreat
set_option linter.unusedVariables false
set_option linter.unusedSimpArgs false
open Go.ChangeShapes Go.WideShapes Go.ChangeAt Go.RowKit
attribute [local go_sem] ext_cell ext_frozen ext_lt ext_lt1 ext_lt2 ext_lt3 ltn2 ltn3 ltn13 lts1 lts2 lts3
def WlkOut (w : World) (e : Ending) (w' : World) : Prop := ∃ vg va vk g a k, e = .returned (.tuple #[vg, va, vk]) ∧ (GrV w.heap.size w'.heap.size w' vg g ∧ AuV w.heap.size w'.heap.size w' va a ∧ WkV w.heap.size w'.heap.size w' vk k ∧ Below w.heap.size w w')
theorem GaR.fin3 {b r gq aq : Nat} {w0 w w' : World} {gs es : Value} {g : Gr} {ac nx : Value} {a : Au} {vk : Value} {k : Wk} {lo : Nat} (h : GaR b r gq aq w0 w gs es g ac nx a) (hb : r + 2 < b) (hk : WkV lo w.heap.size w vk k) (hlo : r + 3 ≤ lo) (ho : Only r (r + 3) w w') :
    GrV w0.heap.size w'.heap.size w' (.agg #[gs, es]) g ∧ AuV w0.heap.size w'.heap.size w' (.agg #[.int .i64 a.start, ac, nx]) a ∧ WkV w0.heap.size w'.heap.size w' vk k ∧ Below w0.heap.size w0 w' := by
  have hd := h.ord
  have h0 := h.at0
  have hq := h.abk.lt
  have hs := ho.size
  exact ⟨(h.gv.only ho (by omega) (.inr (by omega))).mono (by omega) (by omega), (h.av.only ho (by omega) (.inr (by omega))).mono (by omega) (by omega), (hk.only ho (Nat.le_refl _) (.inr hlo)).mono (by omega) hs, h.bel.trans (ho.below (B := w0.heap.size) (by omega) h.bel.size)⟩
def putW (w : World) (r : Nat) (gs es st ac nx ks kss : Value) : World := ((((((w.setCell ⟨r, 0, none⟩ gs).setCell ⟨r, 1, none⟩ es).setCell ⟨r + 1, 0, none⟩ st).setCell ⟨r + 1, 1, none⟩ ac).setCell ⟨r + 1, 2, none⟩ nx).setCell ⟨r + 1 + 1, 0, none⟩ ks).setCell ⟨r + 1 + 1, 1, none⟩ kss
theorem putW_only (w : World) (r : Nat) (gs es st ac nx ks kss : Value) : Only r (r + 3) w (putW w r gs es st ac nx ks kss) := (((((((Only.refl r (r + 3) w).setCell (p := ⟨r, 0, none⟩) (.inl (by simp only; omega)) _).setCell (p := ⟨r, 1, none⟩) (.inl (by simp only; omega)) _).setCell (p := ⟨r + 1, 0, none⟩) (.inl (by simp only; omega)) _).setCell (p := ⟨r + 1, 1, none⟩) (.inl (by simp only; omega)) _).setCell (p := ⟨r + 1, 2, none⟩) (.inl (by simp only; omega)) _).setCell (p := ⟨r + 1 + 1, 0, none⟩) (.inl (by simp only; omega)) _).setCell (p := ⟨r + 1 + 1, 1, none⟩) (.inl (by simp only; omega)) _
set_option maxHeartbeats 8000000 in
theorem l18Walk_any (v : Value) (bs : List Int) (w : World) (hv : SlI 0 w.heap.size w cU 1 v bs) :
    Calls Tryz.prog 44 #[v] w (WlkOut w) := by
  have HV := Lib.hid hv
  have hb0 := (((Below.refl w.heap.size w).alloc (Nat.le_refl _) (.cells #[.slice none 0 0, .slice none 0 0] 27)).alloc (by simp) (.cells #[.int .i64 0, .slice none 0 0, .slice none 0 0] 31)).alloc (by simp; omega) (.cells #[.int .i64 0, .slice none 0 0] 43)
  have hb1 := ((Blk.new w 27 #[.slice none 0 0, .slice none 0 0] _ rfl).alloc (.cells #[.int .i64 0, .slice none 0 0, .slice none 0 0] 31)).alloc (.cells #[.int .i64 0, .slice none 0 0] 43)
  have hb2 := (Blk.new (w.alloc (.cells #[.slice none 0 0, .slice none 0 0] 27)) 31 #[.int .i64 0, .slice none 0 0, .slice none 0 0] (w.heap.size + 1) (by simp)).alloc (.cells #[.int .i64 0, .slice none 0 0] 43)
  have hbw := Blk.new ((w.alloc (.cells #[.slice none 0 0, .slice none 0 0] 27)).alloc (.cells #[.int .i64 0, .slice none 0 0, .slice none 0 0] 31)) 43 #[.int .i64 0, .slice none 0 0] (w.heap.size + 1 + 1) (by simp)
  have hs0 : (((w.alloc (.cells #[.slice none 0 0, .slice none 0 0] 27)).alloc (.cells #[.int .i64 0, .slice none 0 0, .slice none 0 0] 31)).alloc (.cells #[.int .i64 0, .slice none 0 0] 43)).heap.size = w.heap.size + 3 := by simp
  obtain ⟨A, n, c, rfl⟩ := hv.shape
  clear hv
  go_enter Tryz.func44, Tryz.ntmps44
  go_wp2_with fail
  refine (l17Two_any _ bs _ ((HV.out.below hb0 (Nat.le_refl _)).mono (Nat.le_refl _) hb0.size)).mono ?_
  rintro e w2 ⟨b, vg, va, g, a, x, y, rfl, hbl, hgv, he11, hav, hc2, hbx⟩
  have hr1 := hb1.keep hbx
  have hr2 := hb2.keep hbx
  have hrw := hbw.keep hbx
  have hb3 := below_trans hb0 hbx
  rw [hs0] at hbl
  clear hbx hb1 hb2 hbw hb0 hs0 HV
  have hlb := hc2.lt
  obtain ⟨A1, n1, c1, A2, n2, c2, rfl⟩ := hgv.shape
  obtain ⟨A3, n3, c3, A4, n4, c4, rfl⟩ := hav.shape
  have hal := ((Below.refl w2.heap.size w2).alloc (Nat.le_refl _) (.cells #[.slice A1 n1 c1, .slice A2 n2 c2] 27)).alloc (by simp) (.cells #[.int .i64 a.start, .slice A3 n3 c3, .slice A4 n4 c4] 31)
  have bg := (Blk.new w2 27 #[.slice A1 n1 c1, .slice A2 n2 c2] _ rfl).alloc (.cells #[.int .i64 a.start, .slice A3 n3 c3, .slice A4 n4 c4] 31)
  have ba := Blk.new (w2.alloc (.cells #[.slice A1 n1 c1, .slice A2 n2 c2] 27)) 31 #[.int .i64 a.start, .slice A3 n3 c3, .slice A4 n4 c4] (w2.heap.size + 1) (by simp)
  obtain ⟨gq, hgq⟩ : ∃ gq, gq = w2.heap.size := ⟨_, rfl⟩
  have HP := Lib.hid (show GaR b w.heap.size gq (gq + 1) w ((w2.alloc (.cells #[.slice A1 n1 c1, .slice A2 n2 c2] 27)).alloc (.cells #[.int .i64 a.start, .slice A3 n3 c3, .slice A4 n4 c4] 31)) _ _ g _ _ a from
    ⟨hr1.keep hal, hr2.keep hal, hgq ▸ bg, hgq ▸ ba, (hgv.below hal (Nat.le_refl _)).mono (by omega) (by omega), (hav.below hal (Nat.le_refl _)).mono (by omega) (by omega), hc2.keep hal, below_trans hb3 hal, rfl, he11, by omega⟩)
  have HRW := Lib.hid (hrw.keep hal)
  have hrb : w.heap.size + 2 < b := by omega
  clear hal bg ba hgv hav hc2 hr1 hr2 hrw hb3
  go_upto_region 2 with fail
  rw [← hgq]
  generalize ((w2.alloc (.cells #[.slice A1 n1 c1, .slice A2 n2 c2] 27)).alloc (.cells #[.int .i64 a.start, .slice A3 n3 c3, .slice A4 n4 c4] 31)) = W at *
  clear hgq hlb hbl
  have x0 : W.cell? ⟨gq, 0, none⟩ = some (.slice A1 n1 c1) := HP.out.gbk.cell 0
  have x1 : W.cell? ⟨gq, 1, none⟩ = some (.slice A2 n2 c2) := HP.out.gbk.cell 1
  have y0 : W.cell? ⟨gq + 1, 0, none⟩ = some (.int .i64 a.start) := HP.out.abk.cell 0
  have y1 : W.cell? ⟨gq + 1, 1, none⟩ = some (.slice A3 n3 c3) := HP.out.abk.cell 1
  have y2 : W.cell? ⟨gq + 1, 2, none⟩ = some (.slice A4 n4 c4) := HP.out.abk.cell 2
  go_wp2_with fail
  refine (specLeastWitness _ _ g a x y _ HP.out.grv HP.out.auv).mono ?_
  rintro e w3 ⟨vk, rfl, hk, hb3⟩
  have hkv := hk.view
  generalize (lstShort g a x y).1 = kk at *
  generalize (lstShort g a x y).2 = is at *
  obtain ⟨A5, n5, c5, rfl⟩ := hkv.shape
  have hal := (Below.refl w3.heap.size w3).alloc (Nat.le_refl _) (.cells #[.int .i64 kk.1, .slice A5 n5 c5] 43)
  have bw := Blk.new w3 43 #[.int .i64 kk.1, .slice A5 n5 c5] _ rfl
  have hWg : gq + 1 < W.heap.size := HP.out.abk.lt
  have hs3 := hb3.size
  have hgb : b < gq := HP.out.ord.2.1
  have HP3 := Lib.hid ((HP.out.keep hb3).keep hal)
  have HRW3 := Lib.hid ((HRW.out.keep hb3).keep hal)
  have HK3 := Lib.hid (show WkV W.heap.size (w3.alloc (.cells #[.int .i64 kk.1, .slice A5 n5 c5] 43)).heap.size (w3.alloc (.cells #[.int .i64 kk.1, .slice A5 n5 c5] 43)) (.agg #[.int .i64 kk.1, .slice A5 n5 c5]) kk from (hkv.below hal (Nat.le_refl _)).mono (Nat.le_refl _) hal.size)
  obtain ⟨wq, hwq⟩ : ∃ wq, wq = w3.heap.size := ⟨_, rfl⟩
  have HWB := Lib.hid (show Blk (w3.alloc (.cells #[.int .i64 kk.1, .slice A5 n5 c5] 43)) wq 43 #[.int .i64 kk.1, .slice A5 n5 c5] from hwq ▸ bw)
  have hwqg : gq + 1 < wq := by omega
  clear hk hkv hal bw hb3 HP HRW x0 x1 y0 y1 y2 hs3
  go_upto_region 3 with fail
  rw [← hwq]
  generalize (w3.alloc (.cells #[.int .i64 kk.1, .slice A5 n5 c5] 43)) = W3 at *
  clear hwq
  cases is
  · skip
    have x0 : W3.cell? ⟨gq, 0, none⟩ = some (.slice A1 n1 c1) := HP3.out.gbk.cell 0
    have x1 : W3.cell? ⟨gq, 1, none⟩ = some (.slice A2 n2 c2) := HP3.out.gbk.cell 1
    have y0 : W3.cell? ⟨gq + 1, 0, none⟩ = some (.int .i64 a.start) := HP3.out.abk.cell 0
    have y1 : W3.cell? ⟨gq + 1, 1, none⟩ = some (.slice A3 n3 c3) := HP3.out.abk.cell 1
    have y2 : W3.cell? ⟨gq + 1, 2, none⟩ = some (.slice A4 n4 c4) := HP3.out.abk.cell 2
    go_wp2_with fail
    refine F_start 6 (fun w' => w'.cell? ⟨gq, 0, none⟩ = some (.slice A1 n1 c1) ∧ w'.cell? ⟨gq, 1, none⟩ = some (.slice A2 n2 c2) ∧ w'.cell? ⟨gq + 1, 0, none⟩ = some (.int .i64 a.start) ∧ w'.cell? ⟨gq + 1, 1, none⟩ = some (.slice A3 n3 c3) ∧ w'.cell? ⟨gq + 1, 2, none⟩ = some (.slice A4 n4 c4)) (by kernel_rfl) (by exact ⟨x0, x1, y0, y1, y2⟩) (fun hS inv => ?_)
    refine F_take (i := 0) (v := ?_) rfl (by kernel_rfl) (by kernel_rfl) (by kernel_rfl) (fun _ _ _ h => h) inv (Or.inl ⟨by rfl, ?_⟩) (by assumption) (fun invn => ?_)
    rotate_left
    · (intro w hSw; (try dsimp only at hSw); go_simp; try with_reducible rfl)
    try simp only [List.getElem_toArray, List.getElem_cons_zero, List.getElem_cons_succ, Act.put, List.setIfInBounds_toArray, List.set_cons_zero, List.set_cons_succ]
    clear inv
    have inv := invn
    clear invn
    refine F_take (i := 1) (v := ?_) rfl (by kernel_rfl) (by kernel_rfl) (by kernel_rfl) (fun _ _ _ h => h) inv (Or.inl ⟨by rfl, ?_⟩) (by assumption) (fun invn => ?_)
    rotate_left
    · (intro w hSw; (try dsimp only at hSw); go_simp; try with_reducible rfl)
    try simp only [List.getElem_toArray, List.getElem_cons_zero, List.getElem_cons_succ, Act.put, List.setIfInBounds_toArray, List.set_cons_zero, List.set_cons_succ]
    clear inv
    have inv := invn
    clear invn
    refine F_take (i := 2) (v := ?_) rfl (by kernel_rfl) (by kernel_rfl) (by kernel_rfl) (fun _ _ _ h => h) inv (Or.inl ⟨by rfl, ?_⟩) (by assumption) (fun invn => ?_)
    rotate_left
    · (intro w hSw; (try dsimp only at hSw); go_simp; try with_reducible rfl)
    try simp only [List.getElem_toArray, List.getElem_cons_zero, List.getElem_cons_succ, Act.put, List.setIfInBounds_toArray, List.set_cons_zero, List.set_cons_succ]
    clear inv
    have inv := invn
    clear invn
    refine F_take (i := 3) (v := ?_) rfl (by kernel_rfl) (by kernel_rfl) (by kernel_rfl) (fun _ _ _ h => h) inv (Or.inl ⟨by rfl, ?_⟩) (by assumption) (fun invn => ?_)
    rotate_left
    · (intro w hSw; (try dsimp only at hSw); go_simp; try with_reducible rfl)
    try simp only [List.getElem_toArray, List.getElem_cons_zero, List.getElem_cons_succ, Act.put, List.setIfInBounds_toArray, List.set_cons_zero, List.set_cons_succ]
    clear inv
    have inv := invn
    clear invn
    have HPd := Lib.hid HP3.out.drew
    have HRd := Lib.hid (HRW3.out.keep (Below.refl W3.heap.size W3).drew)
    clear x0 x1 y0 y1 y2
    refine F_one (i := 4) (by kernel_rfl) rfl rfl (by omega) inv (fun K hK => ?_)
    try simp only [List.getElem_toArray, List.getElem_cons_zero, List.getElem_cons_succ]
    go_simp
    refine (l5Walk_any b _ g _ HPd.out.cur HPd.out.grb (by have := HPd.out.e11; omega)).mono ?_
    rintro e w8 ⟨vk8, k8, rfl, hk8, -, hc8, ho8⟩
    have HP8 := Lib.hid (HPd.out.step ho8 hc8)
    have HR8 := Lib.hid (HRd.out.only ho8 (.inl (by omega)))
    have hgl8 := HPd.out.abk.lt
    have hkv8 := hk8.view
    obtain ⟨A8, n8, c8, rfl⟩ := hkv8.shape
    have HK8 := Lib.hid hkv8
    have hlo8 : w.heap.size + 3 ≤ W3.drew.heap.size := by have := HP3.out.ord; omega
    clear hk8 hkv8 ho8 hc8
    refine hK.out _ _ (⟨HP8.out.gbk.cell 0, HP8.out.gbk.cell 1, HP8.out.abk.cell 0, HP8.out.abk.cell 1, HP8.out.abk.cell 2⟩) (fun hSn invn => ?_)
    try simp only [List.getElem_toArray, List.getElem_cons_zero, List.getElem_cons_succ, Act.put, List.setIfInBounds_toArray, List.set_cons_zero, List.set_cons_succ]
    clear hK K inv hS
    have inv := invn
    have hS := hSn
    clear invn hSn
    have x0 : w8.cell? ⟨gq, 0, none⟩ = some (.slice A1 n1 c1) := HP8.out.gbk.cell 0
    have x1 : w8.cell? ⟨gq, 1, none⟩ = some (.slice A2 n2 c2) := HP8.out.gbk.cell 1
    have y0 : w8.cell? ⟨gq + 1, 0, none⟩ = some (.int .i64 a.start) := HP8.out.abk.cell 0
    have y1 : w8.cell? ⟨gq + 1, 1, none⟩ = some (.slice A3 n3 c3) := HP8.out.abk.cell 1
    have y2 : w8.cell? ⟨gq + 1, 2, none⟩ = some (.slice A4 n4 c4) := HP8.out.abk.cell 2
    have z0 : w8.cell? ⟨w.heap.size, 0, none⟩ = some (.slice none 0 0) := HP8.out.res1.cell 0
    have z1 : w8.cell? ⟨w.heap.size, 1, none⟩ = some (.slice none 0 0) := HP8.out.res1.cell 1
    have z2 : w8.cell? ⟨w.heap.size + 1, 0, none⟩ = some (.int .i64 0) := HP8.out.res2.cell 0
    have z3 : w8.cell? ⟨w.heap.size + 1, 1, none⟩ = some (.slice none 0 0) := HP8.out.res2.cell 1
    have z4 : w8.cell? ⟨w.heap.size + 1, 2, none⟩ = some (.slice none 0 0) := HP8.out.res2.cell 2
    have v0 := HP8.out.res1.frozen 0
    have v1 := HP8.out.res1.frozen 1
    have v2 := HP8.out.res2.frozen 0
    have v3 := HP8.out.res2.frozen 1
    have v4 := HP8.out.res2.frozen 2
    have hlr := HP8.out.res1.lt
    have hls := HP8.out.res2.lt
    have hord := HP8.out.ord
    have q1 : ¬ gq + 1 = w.heap.size := by omega
    have q2 : ¬ w.heap.size = gq + 1 := by omega
    have q3 : ¬ gq + 1 = w.heap.size + 1 := by omega
    have q4 : ¬ w.heap.size + 1 = gq + 1 := by omega
    have q5 : ¬ gq = w.heap.size := by omega
    have q6 : ¬ w.heap.size = gq := by omega
    have q7 : ¬ gq = w.heap.size + 1 := by omega
    have q8 : ¬ w.heap.size + 1 = gq := by omega
    clear hord
    have z5 : w8.cell? ⟨w.heap.size + 1 + 1, 0, none⟩ = some (.int .i64 0) := HR8.out.cell 0
    have z6 : w8.cell? ⟨w.heap.size + 1 + 1, 1, none⟩ = some (.slice none 0 0) := HR8.out.cell 1
    have v5 := HR8.out.frozen 0
    have v6 := HR8.out.frozen 1
    have hlw := HR8.out.lt
    clear x0 x1 y0 y1 y2
    have HQ := Lib.hid (HP8.out.put (.slice A1 n1 c1) (.slice A2 n2 c2))
    have HQB := Lib.hid (HP8.out.blks HQ.out.1)
    refine F_one (i := 5) (by kernel_rfl) rfl rfl (by omega) inv (fun K hK => ?_)
    try simp only [List.getElem_toArray, List.getElem_cons_zero, List.getElem_cons_succ]
    go_simp
    refine hK.out _ _ (⟨HQB.out.1.cell 0, HQB.out.1.cell 1, HQB.out.2.cell 0, HQB.out.2.cell 1, HQB.out.2.cell 2⟩) (fun hSn invn => ?_)
    try simp only [List.getElem_toArray, List.getElem_cons_zero, List.getElem_cons_succ, Act.put, List.setIfInBounds_toArray, List.set_cons_zero, List.set_cons_succ]
    clear hK K inv hS
    have inv := invn
    have hS := hSn
    clear invn hSn
    refine F_tail (i := 6) (by kernel_rfl) rfl rfl (by omega) (fun K hK => ?_)
    try simp only [List.getElem_toArray, List.getElem_cons_zero, List.getElem_cons_succ]
    go_simp
    refine hK.out _ _ ?_
    try simp only [List.getElem_toArray, List.getElem_cons_zero, List.getElem_cons_succ, Act.put, List.setIfInBounds_toArray, List.set_cons_zero, List.set_cons_succ]
    clear hK K
    try clear inv hS
    refine F_last (i := 7) (by kernel_rfl) rfl rfl (by omega) (by kernel_rfl) (fun K hK => ?_)
    go_simp
    refine hK _ _ ?_
    clear hK K
    go_wp2_with fail
    have HD := HP8.out.fin3 hrb HK8.out hlo8 (putW_only w8 w.heap.size (.slice A1 n1 c1) (.slice A2 n2 c2) (.int .i64 a.start) (.slice A3 n3 c3) (.slice A4 n4 c4) (.int .i64 k8.1) (.slice A8 n8 c8))
    exact bodyPost_ret (v := .tuple #[.agg #[.slice A1 n1 c1, .slice A2 n2 c2], .agg #[.int .i64 a.start, .slice A3 n3 c3, .slice A4 n4 c4], .agg #[.int .i64 k8.1, .slice A8 n8 c8]]) (by simp [results, Tryz.results44, go_sem, z0, z1, z2, z3, z4, z5, z6, v0, v1, v2, v3, v4, v5, v6, hlr, hls, hlw]) rfl ⟨_, _, _, g, a, k8, rfl, HD⟩
  · go_wp2_with fail
    refine (l1Once_any b 4 _ HP3.out.cur).mono ?_
    rintro e w7 ⟨t, rfl, hc7, ho7⟩
    have HP7 := Lib.hid (HP3.out.step ho7 hc7)
    have HR7 := Lib.hid (HRW3.out.only ho7 (.inl (by omega)))
    have HWB7 := Lib.hid (HWB.out.only ho7 (.inr (by omega)))
    have HK7 := Lib.hid ((HK3.out.only ho7 (Nat.le_refl _) (.inr (by omega))).mono (Nat.le_refl _) ho7.size)
    clear ho7 hc7 HP3 HRW3 HWB HK3
    cases t
    · skip
      have x0 : w7.cell? ⟨gq, 0, none⟩ = some (.slice A1 n1 c1) := HP7.out.gbk.cell 0
      have x1 : w7.cell? ⟨gq, 1, none⟩ = some (.slice A2 n2 c2) := HP7.out.gbk.cell 1
      have y0 : w7.cell? ⟨gq + 1, 0, none⟩ = some (.int .i64 a.start) := HP7.out.abk.cell 0
      have y1 : w7.cell? ⟨gq + 1, 1, none⟩ = some (.slice A3 n3 c3) := HP7.out.abk.cell 1
      have y2 : w7.cell? ⟨gq + 1, 2, none⟩ = some (.slice A4 n4 c4) := HP7.out.abk.cell 2
      have z0 : w7.cell? ⟨w.heap.size, 0, none⟩ = some (.slice none 0 0) := HP7.out.res1.cell 0
      have z1 : w7.cell? ⟨w.heap.size, 1, none⟩ = some (.slice none 0 0) := HP7.out.res1.cell 1
      have z2 : w7.cell? ⟨w.heap.size + 1, 0, none⟩ = some (.int .i64 0) := HP7.out.res2.cell 0
      have z3 : w7.cell? ⟨w.heap.size + 1, 1, none⟩ = some (.slice none 0 0) := HP7.out.res2.cell 1
      have z4 : w7.cell? ⟨w.heap.size + 1, 2, none⟩ = some (.slice none 0 0) := HP7.out.res2.cell 2
      have v0 := HP7.out.res1.frozen 0
      have v1 := HP7.out.res1.frozen 1
      have v2 := HP7.out.res2.frozen 0
      have v3 := HP7.out.res2.frozen 1
      have v4 := HP7.out.res2.frozen 2
      have hlr := HP7.out.res1.lt
      have hls := HP7.out.res2.lt
      have hord := HP7.out.ord
      have q1 : ¬ gq + 1 = w.heap.size := by omega
      have q2 : ¬ w.heap.size = gq + 1 := by omega
      have q3 : ¬ gq + 1 = w.heap.size + 1 := by omega
      have q4 : ¬ w.heap.size + 1 = gq + 1 := by omega
      have q5 : ¬ gq = w.heap.size := by omega
      have q6 : ¬ w.heap.size = gq := by omega
      have q7 : ¬ gq = w.heap.size + 1 := by omega
      have q8 : ¬ w.heap.size + 1 = gq := by omega
      clear hord
      have z5 : w7.cell? ⟨w.heap.size + 1 + 1, 0, none⟩ = some (.int .i64 0) := HR7.out.cell 0
      have z6 : w7.cell? ⟨w.heap.size + 1 + 1, 1, none⟩ = some (.slice none 0 0) := HR7.out.cell 1
      have v5 := HR7.out.frozen 0
      have v6 := HR7.out.frozen 1
      have hlw := HR7.out.lt
      have k0 : w7.cell? ⟨wq, 0, none⟩ = some (.int .i64 kk.1) := HWB7.out.cell 0
      have k1 : w7.cell? ⟨wq, 1, none⟩ = some (.slice A5 n5 c5) := HWB7.out.cell 1
      have hordw := HP7.out.ord
      have p1 : ¬ wq = w.heap.size := by omega
      have p2 : ¬ w.heap.size = wq := by omega
      have p3 : ¬ wq = w.heap.size + 1 := by omega
      have p4 : ¬ w.heap.size + 1 = wq := by omega
      have p5 : ¬ wq = w.heap.size + 1 + 1 := by omega
      have p6 : ¬ w.heap.size + 1 + 1 = wq := by omega
      have p7 : ¬ gq = w.heap.size + 1 + 1 := by omega
      have p8 : ¬ w.heap.size + 1 + 1 = gq := by omega
      have p9 : ¬ gq + 1 = w.heap.size + 1 + 1 := by omega
      have p10 : ¬ w.heap.size + 1 + 1 = gq + 1 := by omega
      have hlo9 : w.heap.size + 3 ≤ W.heap.size := by omega
      clear hordw
      go_wp2_with fail
      go_region
      have HD := HP7.out.fin3 hrb HK7.out hlo9 (((putW_only w7 w.heap.size (.slice A1 n1 c1) (.slice A2 n2 c2) (.int .i64 a.start) (.slice A3 n3 c3) (.slice A4 n4 c4) (.int .i64 kk.1) (.slice A5 n5 c5))).drew)
      go_wp2_with fail
      exact bodyPost_ret (v := .tuple #[.agg #[.slice A1 n1 c1, .slice A2 n2 c2], .agg #[.int .i64 a.start, .slice A3 n3 c3, .slice A4 n4 c4], .agg #[.int .i64 kk.1, .slice A5 n5 c5]]) (by simp [results, Tryz.results44, go_sem, z0, z1, z2, z3, z4, z5, z6, v0, v1, v2, v3, v4, v5, v6, hlr, hls, hlw]) rfl ⟨_, _, _, g, a, kk, rfl, HD⟩
    · skip
      have x0 : w7.cell? ⟨gq, 0, none⟩ = some (.slice A1 n1 c1) := HP7.out.gbk.cell 0
      have x1 : w7.cell? ⟨gq, 1, none⟩ = some (.slice A2 n2 c2) := HP7.out.gbk.cell 1
      have y0 : w7.cell? ⟨gq + 1, 0, none⟩ = some (.int .i64 a.start) := HP7.out.abk.cell 0
      have y1 : w7.cell? ⟨gq + 1, 1, none⟩ = some (.slice A3 n3 c3) := HP7.out.abk.cell 1
      have y2 : w7.cell? ⟨gq + 1, 2, none⟩ = some (.slice A4 n4 c4) := HP7.out.abk.cell 2
      go_wp2_with fail
      refine F_start 6 (fun w' => w'.cell? ⟨gq, 0, none⟩ = some (.slice A1 n1 c1) ∧ w'.cell? ⟨gq, 1, none⟩ = some (.slice A2 n2 c2) ∧ w'.cell? ⟨gq + 1, 0, none⟩ = some (.int .i64 a.start) ∧ w'.cell? ⟨gq + 1, 1, none⟩ = some (.slice A3 n3 c3) ∧ w'.cell? ⟨gq + 1, 2, none⟩ = some (.slice A4 n4 c4)) (by kernel_rfl) (by exact ⟨x0, x1, y0, y1, y2⟩) (fun hS inv => ?_)
      refine F_take (i := 0) (v := ?_) rfl (by kernel_rfl) (by kernel_rfl) (by kernel_rfl) (fun _ _ _ h => h) inv (Or.inl ⟨by rfl, ?_⟩) (by assumption) (fun invn => ?_)
      rotate_left
      · (intro w hSw; (try dsimp only at hSw); go_simp; try with_reducible rfl)
      try simp only [List.getElem_toArray, List.getElem_cons_zero, List.getElem_cons_succ, Act.put, List.setIfInBounds_toArray, List.set_cons_zero, List.set_cons_succ]
      clear inv
      have inv := invn
      clear invn
      refine F_take (i := 1) (v := ?_) rfl (by kernel_rfl) (by kernel_rfl) (by kernel_rfl) (fun _ _ _ h => h) inv (Or.inl ⟨by rfl, ?_⟩) (by assumption) (fun invn => ?_)
      rotate_left
      · (intro w hSw; (try dsimp only at hSw); go_simp; try with_reducible rfl)
      try simp only [List.getElem_toArray, List.getElem_cons_zero, List.getElem_cons_succ, Act.put, List.setIfInBounds_toArray, List.set_cons_zero, List.set_cons_succ]
      clear inv
      have inv := invn
      clear invn
      refine F_take (i := 2) (v := ?_) rfl (by kernel_rfl) (by kernel_rfl) (by kernel_rfl) (fun _ _ _ h => h) inv (Or.inl ⟨by rfl, ?_⟩) (by assumption) (fun invn => ?_)
      rotate_left
      · (intro w hSw; (try dsimp only at hSw); go_simp; try with_reducible rfl)
      try simp only [List.getElem_toArray, List.getElem_cons_zero, List.getElem_cons_succ, Act.put, List.setIfInBounds_toArray, List.set_cons_zero, List.set_cons_succ]
      clear inv
      have inv := invn
      clear invn
      refine F_take (i := 3) (v := ?_) rfl (by kernel_rfl) (by kernel_rfl) (by kernel_rfl) (fun _ _ _ h => h) inv (Or.inl ⟨by rfl, ?_⟩) (by assumption) (fun invn => ?_)
      rotate_left
      · (intro w hSw; (try dsimp only at hSw); go_simp; try with_reducible rfl)
      try simp only [List.getElem_toArray, List.getElem_cons_zero, List.getElem_cons_succ, Act.put, List.setIfInBounds_toArray, List.set_cons_zero, List.set_cons_succ]
      clear inv
      have inv := invn
      clear invn
      have HPd := Lib.hid HP7.out.drew
      have HRd := Lib.hid (HR7.out.keep (Below.refl w7.heap.size w7).drew)
      clear x0 x1 y0 y1 y2
      refine F_one (i := 4) (by kernel_rfl) rfl rfl (by omega) inv (fun K hK => ?_)
      try simp only [List.getElem_toArray, List.getElem_cons_zero, List.getElem_cons_succ]
      go_simp
      refine (l5Walk_any b _ g _ HPd.out.cur HPd.out.grb (by have := HPd.out.e11; omega)).mono ?_
      rintro e w8 ⟨vk8, k8, rfl, hk8, -, hc8, ho8⟩
      have HP8 := Lib.hid (HPd.out.step ho8 hc8)
      have HR8 := Lib.hid (HRd.out.only ho8 (.inl (by omega)))
      have hgl8 := HPd.out.abk.lt
      have hkv8 := hk8.view
      obtain ⟨A8, n8, c8, rfl⟩ := hkv8.shape
      have HK8 := Lib.hid hkv8
      have hlo8 : w.heap.size + 3 ≤ w7.drew.heap.size := by have := HP7.out.ord; omega
      clear hk8 hkv8 ho8 hc8
      refine hK.out _ _ (⟨HP8.out.gbk.cell 0, HP8.out.gbk.cell 1, HP8.out.abk.cell 0, HP8.out.abk.cell 1, HP8.out.abk.cell 2⟩) (fun hSn invn => ?_)
      try simp only [List.getElem_toArray, List.getElem_cons_zero, List.getElem_cons_succ, Act.put, List.setIfInBounds_toArray, List.set_cons_zero, List.set_cons_succ]
      clear hK K inv hS
      have inv := invn
      have hS := hSn
      clear invn hSn
      have x0 : w8.cell? ⟨gq, 0, none⟩ = some (.slice A1 n1 c1) := HP8.out.gbk.cell 0
      have x1 : w8.cell? ⟨gq, 1, none⟩ = some (.slice A2 n2 c2) := HP8.out.gbk.cell 1
      have y0 : w8.cell? ⟨gq + 1, 0, none⟩ = some (.int .i64 a.start) := HP8.out.abk.cell 0
      have y1 : w8.cell? ⟨gq + 1, 1, none⟩ = some (.slice A3 n3 c3) := HP8.out.abk.cell 1
      have y2 : w8.cell? ⟨gq + 1, 2, none⟩ = some (.slice A4 n4 c4) := HP8.out.abk.cell 2
      have z0 : w8.cell? ⟨w.heap.size, 0, none⟩ = some (.slice none 0 0) := HP8.out.res1.cell 0
      have z1 : w8.cell? ⟨w.heap.size, 1, none⟩ = some (.slice none 0 0) := HP8.out.res1.cell 1
      have z2 : w8.cell? ⟨w.heap.size + 1, 0, none⟩ = some (.int .i64 0) := HP8.out.res2.cell 0
      have z3 : w8.cell? ⟨w.heap.size + 1, 1, none⟩ = some (.slice none 0 0) := HP8.out.res2.cell 1
      have z4 : w8.cell? ⟨w.heap.size + 1, 2, none⟩ = some (.slice none 0 0) := HP8.out.res2.cell 2
      have v0 := HP8.out.res1.frozen 0
      have v1 := HP8.out.res1.frozen 1
      have v2 := HP8.out.res2.frozen 0
      have v3 := HP8.out.res2.frozen 1
      have v4 := HP8.out.res2.frozen 2
      have hlr := HP8.out.res1.lt
      have hls := HP8.out.res2.lt
      have hord := HP8.out.ord
      have q1 : ¬ gq + 1 = w.heap.size := by omega
      have q2 : ¬ w.heap.size = gq + 1 := by omega
      have q3 : ¬ gq + 1 = w.heap.size + 1 := by omega
      have q4 : ¬ w.heap.size + 1 = gq + 1 := by omega
      have q5 : ¬ gq = w.heap.size := by omega
      have q6 : ¬ w.heap.size = gq := by omega
      have q7 : ¬ gq = w.heap.size + 1 := by omega
      have q8 : ¬ w.heap.size + 1 = gq := by omega
      clear hord
      have z5 : w8.cell? ⟨w.heap.size + 1 + 1, 0, none⟩ = some (.int .i64 0) := HR8.out.cell 0
      have z6 : w8.cell? ⟨w.heap.size + 1 + 1, 1, none⟩ = some (.slice none 0 0) := HR8.out.cell 1
      have v5 := HR8.out.frozen 0
      have v6 := HR8.out.frozen 1
      have hlw := HR8.out.lt
      clear x0 x1 y0 y1 y2
      have HQ := Lib.hid (HP8.out.put (.slice A1 n1 c1) (.slice A2 n2 c2))
      have HQB := Lib.hid (HP8.out.blks HQ.out.1)
      refine F_one (i := 5) (by kernel_rfl) rfl rfl (by omega) inv (fun K hK => ?_)
      try simp only [List.getElem_toArray, List.getElem_cons_zero, List.getElem_cons_succ]
      go_simp
      refine hK.out _ _ (⟨HQB.out.1.cell 0, HQB.out.1.cell 1, HQB.out.2.cell 0, HQB.out.2.cell 1, HQB.out.2.cell 2⟩) (fun hSn invn => ?_)
      try simp only [List.getElem_toArray, List.getElem_cons_zero, List.getElem_cons_succ, Act.put, List.setIfInBounds_toArray, List.set_cons_zero, List.set_cons_succ]
      clear hK K inv hS
      have inv := invn
      have hS := hSn
      clear invn hSn
      refine F_tail (i := 6) (by kernel_rfl) rfl rfl (by omega) (fun K hK => ?_)
      try simp only [List.getElem_toArray, List.getElem_cons_zero, List.getElem_cons_succ]
      go_simp
      refine hK.out _ _ ?_
      try simp only [List.getElem_toArray, List.getElem_cons_zero, List.getElem_cons_succ, Act.put, List.setIfInBounds_toArray, List.set_cons_zero, List.set_cons_succ]
      clear hK K
      try clear inv hS
      refine F_last (i := 7) (by kernel_rfl) rfl rfl (by omega) (by kernel_rfl) (fun K hK => ?_)
      go_simp
      refine hK _ _ ?_
      clear hK K
      go_wp2_with fail
      have HD := HP8.out.fin3 hrb HK8.out hlo8 (putW_only w8 w.heap.size (.slice A1 n1 c1) (.slice A2 n2 c2) (.int .i64 a.start) (.slice A3 n3 c3) (.slice A4 n4 c4) (.int .i64 k8.1) (.slice A8 n8 c8))
      exact bodyPost_ret (v := .tuple #[.agg #[.slice A1 n1 c1, .slice A2 n2 c2], .agg #[.int .i64 a.start, .slice A3 n3 c3, .slice A4 n4 c4], .agg #[.int .i64 k8.1, .slice A8 n8 c8]]) (by simp [results, Tryz.results44, go_sem, z0, z1, z2, z3, z4, z5, z6, v0, v1, v2, v3, v4, v5, v6, hlr, hls, hlw]) rfl ⟨_, _, _, g, a, k8, rfl, HD⟩
set_option maxHeartbeats 8000000 in
theorem drawMatchesWalk_any (v : Value) (bs : List Int) (w : World) (hv : SlI 0 w.heap.size w cU 1 v bs) :
    Calls Tryz.prog 19 #[v] w (WlkOut w) := by
  have HV := Lib.hid hv
  have hb0 := (((Below.refl w.heap.size w).alloc (Nat.le_refl _) (.cells #[.slice none 0 0, .slice none 0 0] 27)).alloc (by simp) (.cells #[.int .i64 0, .slice none 0 0, .slice none 0 0] 31)).alloc (by simp; omega) (.cells #[.int .i64 0, .slice none 0 0] 43)
  have hb1 := ((Blk.new w 27 #[.slice none 0 0, .slice none 0 0] _ rfl).alloc (.cells #[.int .i64 0, .slice none 0 0, .slice none 0 0] 31)).alloc (.cells #[.int .i64 0, .slice none 0 0] 43)
  have hb2 := (Blk.new (w.alloc (.cells #[.slice none 0 0, .slice none 0 0] 27)) 31 #[.int .i64 0, .slice none 0 0, .slice none 0 0] (w.heap.size + 1) (by simp)).alloc (.cells #[.int .i64 0, .slice none 0 0] 43)
  have hbw := Blk.new ((w.alloc (.cells #[.slice none 0 0, .slice none 0 0] 27)).alloc (.cells #[.int .i64 0, .slice none 0 0, .slice none 0 0] 31)) 43 #[.int .i64 0, .slice none 0 0] (w.heap.size + 1 + 1) (by simp)
  have hs0 : (((w.alloc (.cells #[.slice none 0 0, .slice none 0 0] 27)).alloc (.cells #[.int .i64 0, .slice none 0 0, .slice none 0 0] 31)).alloc (.cells #[.int .i64 0, .slice none 0 0] 43)).heap.size = w.heap.size + 3 := by simp
  obtain ⟨A, n, c, rfl⟩ := hv.shape
  clear hv
  go_enter Tryz.func19, Tryz.ntmps19
  go_wp2_with fail
  refine (l18Walk_any _ bs _ ((HV.out.below hb0 (Nat.le_refl _)).mono (Nat.le_refl _) hb0.size)).mono ?_
  rintro e w2 ⟨vg, va, vk, g, a, k, rfl, hgv, hav, hkv, hbx⟩
  have hr1 := hb1.keep hbx
  have hr2 := hb2.keep hbx
  have hrw := hbw.keep hbx
  have hb3 := below_trans hb0 hbx
  have hsx := hbx.size
  rw [hs0] at hgv hav hkv hsx
  clear hbx hb1 hb2 hbw hb0 hs0 HV
  obtain ⟨A1, n1, c1, A2, n2, c2, rfl⟩ := hgv.shape
  obtain ⟨A3, n3, c3, A4, n4, c4, rfl⟩ := hav.shape
  obtain ⟨A5, n5, c5, rfl⟩ := hkv.shape
  have hal := (((Below.refl w2.heap.size w2).alloc (Nat.le_refl _) (.cells #[.slice A1 n1 c1, .slice A2 n2 c2] 27)).alloc (by simp) (.cells #[.int .i64 a.start, .slice A3 n3 c3, .slice A4 n4 c4] 31)).alloc (by simp; omega) (.cells #[.int .i64 k.1, .slice A5 n5 c5] 43)
  have bg := ((Blk.new w2 27 #[.slice A1 n1 c1, .slice A2 n2 c2] _ rfl).alloc (.cells #[.int .i64 a.start, .slice A3 n3 c3, .slice A4 n4 c4] 31)).alloc (.cells #[.int .i64 k.1, .slice A5 n5 c5] 43)
  have ba := (Blk.new (w2.alloc (.cells #[.slice A1 n1 c1, .slice A2 n2 c2] 27)) 31 #[.int .i64 a.start, .slice A3 n3 c3, .slice A4 n4 c4] (w2.heap.size + 1) (by simp)).alloc (.cells #[.int .i64 k.1, .slice A5 n5 c5] 43)
  have bw := Blk.new ((w2.alloc (.cells #[.slice A1 n1 c1, .slice A2 n2 c2] 27)).alloc (.cells #[.int .i64 a.start, .slice A3 n3 c3, .slice A4 n4 c4] 31)) 43 #[.int .i64 k.1, .slice A5 n5 c5] (w2.heap.size + 1 + 1) (by simp)
  have HR1 := Lib.hid (hr1.keep hal)
  have HR2 := Lib.hid (hr2.keep hal)
  have HRW := Lib.hid (hrw.keep hal)
  have HB := Lib.hid (below_trans hb3 hal)
  have HGV := Lib.hid ((hgv.below hal (Nat.le_refl _)).mono (Nat.le_refl _) hal.size)
  have HAV := Lib.hid ((hav.below hal (Nat.le_refl _)).mono (Nat.le_refl _) hal.size)
  have HKV := Lib.hid ((hkv.below hal (Nat.le_refl _)).mono (Nat.le_refl _) hal.size)
  clear hgv hav hkv hal hr1 hr2 hrw hb3
  go_upto_region 2 with fail
  generalize (((w2.alloc (.cells #[.slice A1 n1 c1, .slice A2 n2 c2] 27)).alloc (.cells #[.int .i64 a.start, .slice A3 n3 c3, .slice A4 n4 c4] 31)).alloc (.cells #[.int .i64 k.1, .slice A5 n5 c5] 43)) = W at *
  obtain ⟨gq, hgq⟩ : ∃ gq, gq = w2.heap.size := ⟨_, rfl⟩
  rw [← hgq] at bg ba bw hsx ⊢
  clear hgq
  have x0 : W.cell? ⟨gq, 0, none⟩ = some (.slice A1 n1 c1) := bg.cell 0
  have x1 : W.cell? ⟨gq, 1, none⟩ = some (.slice A2 n2 c2) := bg.cell 1
  have y0 : W.cell? ⟨gq + 1, 0, none⟩ = some (.int .i64 a.start) := ba.cell 0
  have y1 : W.cell? ⟨gq + 1, 1, none⟩ = some (.slice A3 n3 c3) := ba.cell 1
  have y2 : W.cell? ⟨gq + 1, 2, none⟩ = some (.slice A4 n4 c4) := ba.cell 2
  have k0 : W.cell? ⟨gq + 1 + 1, 0, none⟩ = some (.int .i64 k.1) := bw.cell 0
  have k1 : W.cell? ⟨gq + 1 + 1, 1, none⟩ = some (.slice A5 n5 c5) := bw.cell 1
  have z0 : W.cell? ⟨w.heap.size, 0, none⟩ = some (.slice none 0 0) := HR1.out.cell 0
  have z1 : W.cell? ⟨w.heap.size, 1, none⟩ = some (.slice none 0 0) := HR1.out.cell 1
  have z2 : W.cell? ⟨w.heap.size + 1, 0, none⟩ = some (.int .i64 0) := HR2.out.cell 0
  have z3 : W.cell? ⟨w.heap.size + 1, 1, none⟩ = some (.slice none 0 0) := HR2.out.cell 1
  have z4 : W.cell? ⟨w.heap.size + 1, 2, none⟩ = some (.slice none 0 0) := HR2.out.cell 2
  have z5 : W.cell? ⟨w.heap.size + 1 + 1, 0, none⟩ = some (.int .i64 0) := HRW.out.cell 0
  have z6 : W.cell? ⟨w.heap.size + 1 + 1, 1, none⟩ = some (.slice none 0 0) := HRW.out.cell 1
  have v0 := HR1.out.frozen 0
  have v1 := HR1.out.frozen 1
  have v2 := HR2.out.frozen 0
  have v3 := HR2.out.frozen 1
  have v4 := HR2.out.frozen 2
  have v5 := HRW.out.frozen 0
  have v6 := HRW.out.frozen 1
  have hlr := HR1.out.lt
  have hls := HR2.out.lt
  have hlw := HRW.out.lt
  clear bg ba bw HR1 HR2 HRW
  obtain ⟨r, hr⟩ : ∃ r, r = w.heap.size := ⟨_, rfl⟩
  have HRS := Lib.hid hr
  rw [← hr] at z0 z1 z2 z3 z4 z5 z6 v0 v1 v2 v3 v4 v5 v6 hlr hls hlw hsx ⊢
  clear hr
  have q1 : ¬ gq = r := by omega
  have q2 : ¬ r = gq := by omega
  have q3 : ¬ gq = r + 1 := by omega
  have q4 : ¬ r + 1 = gq := by omega
  have q5 : ¬ gq = r + 1 + 1 := by omega
  have q6 : ¬ r + 1 + 1 = gq := by omega
  have q7 : ¬ gq + 1 = r := by omega
  have q8 : ¬ r = gq + 1 := by omega
  have q9 : ¬ gq + 1 = r + 1 + 1 := by omega
  have q10 : ¬ r + 1 + 1 = gq + 1 := by omega
  have q11 : ¬ gq + 1 + 1 = r := by omega
  have q12 : ¬ r = gq + 1 + 1 := by omega
  have q13 : ¬ gq + 1 + 1 = r + 1 := by omega
  have q14 : ¬ r + 1 = gq + 1 + 1 := by omega
  have q15 : ¬ gq + 1 = r + 1 := by omega
  have q16 : ¬ r + 1 = gq + 1 := by omega
  have q17 : ¬ gq + 1 + 1 = r + 1 + 1 := by omega
  have q18 : ¬ r + 1 + 1 = gq + 1 + 1 := by omega
  go_wp2_with fail
  go_region
  go_wp2_with fail
  have ho := (putW_only W r (.slice A1 n1 c1) (.slice A2 n2 c2) (.int .i64 a.start) (.slice A3 n3 c3) (.slice A4 n4 c4) (.int .i64 k.1) (.slice A5 n5 c5)).drew
  have hsr := HRS.out
  have hgv := ((HGV.out.only ho (Nat.le_refl _) (.inr (by omega))).mono (show w.heap.size ≤ w.heap.size + 3 by omega) ho.size)
  have hav := ((HAV.out.only ho (Nat.le_refl _) (.inr (by omega))).mono (show w.heap.size ≤ w.heap.size + 3 by omega) ho.size)
  have hkv := ((HKV.out.only ho (Nat.le_refl _) (.inr (by omega))).mono (show w.heap.size ≤ w.heap.size + 3 by omega) ho.size)
  have hbv := HB.out.trans (ho.below (B := w.heap.size) (by omega) HB.out.size)
  exact bodyPost_ret (v := .tuple #[.agg #[.slice A1 n1 c1, .slice A2 n2 c2], .agg #[.int .i64 a.start, .slice A3 n3 c3, .slice A4 n4 c4], .agg #[.int .i64 k.1, .slice A5 n5 c5]]) (by simp [results, Tryz.results19, go_sem, z0, z1, z2, z3, z4, z5, z6, v0, v1, v2, v3, v4, v5, v6, hlr, hls, hlw]) rfl ⟨_, _, _, g, a, k, rfl, hgv, hav, hkv, hbv⟩
end Go.Proofs.YtallglnmeeahiaaGreat
namespace Go.Proofs.YtallglnmeeahiaaGreat
set_option linter.unusedVariables false
set_option linter.unusedSimpArgs false
open Go.ChangeShapes Go.WideShapes Go.ChangeAt Go.RowKit
/-- where a word leads from a state, no test read -/
def runL (a : Au) : Int → List Int → Int
  | s, [] => s
  | s, x :: xs => if s < 0 then s else if wi x 0 8 = true then runL a (mv a s.toNat x.toNat) xs else -1
theorem runL_neg {a : Au} {s : Int} (h : s < 0) (xs : List Int) : runL a s xs = s := by
  cases xs with
  | nil => rfl
  | cons x xs => rw [runL, if_pos h]
theorem runL_bad {a : Au} {s : Int} (h : ¬ s < 0) {x : Int} (hx : wi x 0 8 = false) (xs : List Int) : runL a s (x :: xs) = -1 := by
  rw [runL, if_neg h, hx]; rfl
theorem runL_good {a : Au} {s : Int} (h : ¬ s < 0) {x : Int} (hx : wi x 0 8 = true) (xs : List Int) : runL a s (x :: xs) = runL a (mv a s.toNat x.toNat) xs := by
  rw [runL, if_neg h, if_pos hx]
theorem runL_append (a : Au) : ∀ (xs ys : List Int) (s : Int), runL a s (xs ++ ys) = runL a (runL a s xs) ys
  | [], ys, s => rfl
  | x :: xs, ys, s => by
    by_cases h : s < 0
    · rw [runL_neg h, runL_neg h, runL_neg h]
    · cases hx : wi x 0 8 with
      | false => rw [List.cons_append, runL_bad h hx, runL_bad h hx, runL_neg (by decide)]
      | true => rw [List.cons_append, runL_good h hx, runL_good h hx, runL_append a xs ys]
theorem runL_range {a : Au} (ha : auOk a = true) : ∀ (xs : List Int) (s : Int), -1 ≤ s ∧ s < (a.accept.length : Int) → -1 ≤ runL a s xs ∧ runL a s xs < (a.accept.length : Int)
  | [], s, h => h
  | x :: xs, s, h => by
    rw [runL]
    split
    · exact h
    · split
      · have := mv_lt ha s.toNat x.toNat
        exact runL_range ha xs _ ⟨this.1, by omega⟩
      · omega
def runW (a : Au) (ws : List Int) : Int := if auOk a = true then runL a a.start ws else -1
def accW (a : Au) (ws : List Int) : Bool := decide (0 ≤ runW a ws) && a.accept.getD (runW a ws).toNat false
def wordL (g : Gr) (k : Wk) : List Int := if walkOk g k = true then k.2.map (stepLetter g) else []
theorem clsF_sup (a : Au) (l t : Nat) : ∀ (f : Nat) (s : Int) (m : Nat), m.testBit t = true → (clsF a l f s m).testBit t = true
  | 0, s, m, h => h
  | f + 1, s, m, h => by
    rw [clsF]
    split
    · exact clsF_sup a l t f _ _ (by rw [ins_test, h]; rfl)
    · exact h
theorem cls_self (a : Au) (v s : Nat) : (cls a v s).testBit s = true := by
  rw [cls, show (13 : Nat) = 12 + 1 from rfl, clsF_go (by simp)]
  exact clsF_sup a _ s _ _ _ (by rw [ins_test]; simp)
theorem run_set {g : Gr} {a : Au} {k : Wk} (hw : walkOk g k = true) (ha : auOk a = true) : ∀ i, i ≤ k.2.length → 0 ≤ runL a a.start ((k.2.map (stepLetter g)).take i) → (setAt g a k i).testBit (runL a a.start ((k.2.map (stepLetter g)).take i)).toNat = true
  | 0, _, _ => by rw [setAt, List.take_zero, runL, bit_test]; simp
  | i + 1, hi, h => by
    obtain ⟨s, e, hs, he, -, -, hl, hl6⟩ := walk_step hw (show i < k.2.length by omega)
    have hx : (k.2.map (stepLetter g))[i]? = some (stepLetter g s) := by rw [List.getElem?_map, hs]; rfl
    rw [take_snoc hx, runL_append] at h ⊢
    have hst := (auOk_iff.1 ha).2.1
    have hr := runL_range ha ((k.2.map (stepLetter g)).take i) a.start ⟨by omega, by omega⟩
    have ih := run_set hw ha i (by omega)
    generalize runL a a.start ((k.2.map (stepLetter g)).take i) = q at *
    by_cases hq : q < 0
    · rw [runL_neg hq] at h; omega
    · obtain ⟨q, rfl⟩ := Int.eq_ofNat_of_zero_le (show 0 ≤ q by omega)
      have hw8 : wi (stepLetter g s) 0 8 = true := by rw [wi_iff, hl]; omega
      rw [runL_good hq hw8, runL, hl] at h ⊢
      rw [Int.toNat_natCast, Int.toNat_natCast] at h ⊢
      have hn := (auOk_iff.1 ha).1.2
      have ihb := ih (by omega)
      rw [Int.toNat_natCast] at ihb
      rw [setAt, aft_test, List.any_eq_true]
      refine ⟨q, mem_mem.2 ⟨by omega, ihb⟩, ?_⟩
      rw [List.any_eq_true]
      refine ⟨q, mem_mem.2 ⟨by omega, cls_self a _ q⟩, ?_⟩
      rw [decide_eq_true_eq]
      omega
theorem acc_word {g : Gr} {a : Au} {k : Wk} (hw : walkOk g k = true) (ha : auOk a = true) (h : accW a (wordL g k) = true) : matchB g a k = true := by
  rw [accW, Bool.and_eq_true, decide_eq_true_eq, runW, if_pos ha, wordL, if_pos hw] at h
  obtain ⟨h0, h1⟩ := h
  have hs := run_set hw ha k.2.length (Nat.le_refl _)
  rw [List.take_of_length_le (by rw [List.length_map]; exact Nat.le_refl _)] at hs
  have hst := (auOk_iff.1 ha).2.1
  have hr := runL_range ha (k.2.map (stepLetter g)) a.start ⟨by omega, by omega⟩
  have hn := (auOk_iff.1 ha).1.2
  rw [matchB, hw, ha, Bool.and_self, Bool.true_and, acc, List.any_eq_true]
  refine ⟨_, mem_mem.2 ⟨by omega, hs h0⟩, ?_⟩
  rw [accC, List.any_eq_true]
  exact ⟨_, mem_mem.2 ⟨by omega, cls_self a _ _⟩, h1⟩
end Go.Proofs.YtallglnmeeahiaaGreat
namespace Go.Proofs.YtallglnmeeahiaaGreat
set_option linter.unusedVariables false
set_option linter.unusedSimpArgs false
open Go.ChangeShapes Go.WideShapes Go.ChangeAt Go.RowKit
attribute [local go_sem] ext_cell ext_frozen ext_lt ext_lt1 ext_lt2 ext_lt3 ltn2 ltn3 ltn13 lts1 lts2 lts3
set_option maxHeartbeats 1000000 in
theorem specStepLetter (v : Value) (g : Gr) (s : St) (w : World) (hv : GrV 0 w.heap.size w v g) :
    Calls Tryz.prog 55 #[v, .agg #[.int .i64 s.1, .bool s.2]] w fun en w' => en = .returned (.int .i64 (stepLetter g s)) ∧ Below w.heap.size w w' := by
  have hv0 := hv
  obtain ⟨A1, n1, c1, A2, n2, c2, rfl⟩ := hv.shape
  clear hv
  obtain ⟨id, inv⟩ := s
  have hb0 : Below w.heap.size w ((w.alloc (.cells #[.slice A1 n1 c1, .slice A2 n2 c2] 27)).alloc (.cells #[.int .i64 id, .bool inv] 74)) := ((Below.refl _ _).alloc (Nat.le_refl _) _).alloc (by simp) _
  have hc := fun W (hW : Below w.heap.size w W) => specStepEdge _ g (id, inv) W (hv0.keep hW)
  simp only at hc ⊢
  have HC := Lib.hid hc
  clear hc
  cases hs : stepEd g id with
  | none =>
    have hres : stepLetter g (id, inv) = -1 := by rw [stepLetter]; simp [hs]
    have HR := Lib.hid hres
    rw [hs] at HC
    clear hres hs
    go_enter Tryz.func55, Tryz.ntmps55
    go_wp2_with fail
    refine (HC.out _ hb0).mono ?_
    rintro en w1 ⟨e, rfl, -, hb1⟩
    have hb2 := below_trans hb0 hb1
    clear hb0 hb1
    go_wp2_with fail
    go_ret
    exact ⟨ret_int HR.out.symm, hb2.alloc hb2.size _⟩
  | some e =>
    rw [hs] at HC
    have hres : stepLetter g (id, inv) = if inv then 2 * e.2.2.2 + 1 else 2 * e.2.2.2 := by rw [stepLetter]; simp [hs]
    obtain ⟨hg, hm, -⟩ := stepEd_ok hs
    have hl := (hg.edges e hm).2.2.2
    have hl0 := hl.1
    have hl1 := hl.2
    have HR := Lib.hid hres
    clear hres hs hg hm hl
    go_enter Tryz.func55, Tryz.ntmps55
    go_wp2_with fail
    refine (HC.out _ hb0).mono ?_
    rintro en w1 ⟨e1, rfl, he1, hb1⟩
    obtain rfl := he1 e rfl
    have b1 := (Blk.new (w.alloc _) _ _ (w.heap.size + 1) (by simp)).keep hb1
    have y1 : w1.cell? ⟨w.heap.size + 1, 1, none⟩ = some _ := b1.cell 1
    have hlt := b1.lt
    have hb2 := below_trans hb0 hb1
    clear hb0 hb1 he1 b1
    cases inv with
    | true =>
      go_wp2_with fail
      go_ret
      exact ⟨ret_int HR.out.symm, hb2.alloc hb2.size _⟩
    | false =>
      go_wp2_with fail
      go_ret
      exact ⟨ret_int HR.out.symm, hb2.alloc hb2.size _⟩
end Go.Proofs.YtallglnmeeahiaaGreat
namespace Go.Proofs.YtallglnmeeahiaaGreat
set_option linter.unusedVariables false
set_option linter.unusedSimpArgs false
open Go.RowKit
/-- the only one that may come up: an operation below n whose guard is met -/
theorem F_oneH {P : Program} {ops : Array Oper} {Q : Exit → Act → World → Prop} {md : Region.Mode} {S : World → Prop} {n : Nat} {i : Nat} {oi : Oper} {f : Nat} {listed : Array Bool} {a : Act} {w : World} (hr : Region.ready md ops listed = [i]) (hi : ops[i]? = some oi) (hw : Region.wanted oi (yielded ops a.tmps) = true) (hin : i < n) (inv : HeadInv md ops n listed)
    (h : ∀ K : Act → World → Prop, Shut (∀ a' w', S w' → (S w' → HeadInv md ops n (listed.setIfInBounds i true) → wpAnyF P md ops Q S n f (listed.setIfInBounds i true) a' w') → K a' w') → Oper.wp P oi a w K Q) : wpAnyF P md ops Q S n (f + 1) listed a w := by
  refine ⟨fun h0 => (by rw [hr] at h0; cases h0), fun j hj => ?_⟩
  have hj2 := hj
  rw [hr] at hj2
  obtain rfl : j = i := by simpa using hj2
  unfold wpOp
  simp only [hi, hw, if_true]
  exact .inl (h _ (fun a' w' hS hF => ⟨fun _ => hS, hF hS (inv.set hj hin)⟩))
/-- the only one that may come up: an operation below n whose guard is not met -/
theorem F_oneN {P : Program} {ops : Array Oper} {Q : Exit → Act → World → Prop} {md : Region.Mode} {S : World → Prop} {n : Nat} {i : Nat} {oi : Oper} {f : Nat} {listed : Array Bool} {a : Act} {w : World} (hr : Region.ready md ops listed = [i]) (hi : ops[i]? = some oi) (hw : Region.wanted oi (yielded ops a.tmps) = false) (hin : i < n) (inv : HeadInv md ops n listed) (hS : S w)
    (h : HeadInv md ops n (listed.setIfInBounds i true) → wpAnyF P md ops Q S n f (listed.setIfInBounds i true) (a.put oi.dst undef) w) : wpAnyF P md ops Q S n (f + 1) listed a w := by
  refine ⟨fun h0 => (by rw [hr] at h0; cases h0), fun j hj => ?_⟩
  have hj2 := hj
  rw [hr] at hj2
  obtain rfl : j = i := by simpa using hj2
  unfold wpOp
  simp only [hi, hw]
  exact ⟨fun _ => hS, h (inv.set hj hin)⟩
end Go.Proofs.YtallglnmeeahiaaGreat
