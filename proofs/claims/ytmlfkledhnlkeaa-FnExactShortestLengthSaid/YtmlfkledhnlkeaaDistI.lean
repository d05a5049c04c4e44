/- The program's DistancesTo and ShortestLength. -/
import Derived.Test.YtmlfkledhnlkeaaBothI
import Derived.Test.YtmlfkledhnlkeaaNextI
import Derived.Test.YtmlfkledhnlkeaaTurnI
import Derived.Test.YtmlfkledhnlkeaaSpreadI
import Derived.Test.YtmlfkledhnlkeaaGoalI
import Derived.Test.YtmlfkledhnlkeaaDistP
namespace Go.Proofs.Ytmlfkledhnlkeaa
set_option linter.unusedVariables false
set_option linter.unusedSimpArgs false
open Go.ChangeShapes Go.WideShapes Go.ChangeAt Go.RowKit
attribute [local go_sem] ext_cell ext_frozen ext_lt ext_lt1 ext_lt2 ext_lt3 ltn2 ltn3 ltn13 lts1 lts2 lts3

/-- a literal of ints, laid in a block of its own -/
theorem lit_sl (w : World) (e : TypeId) (xs : List Int) (hm : xs.length ≤ maxLen) : SlE (w.alloc (.cells (xs.map (Value.int .i64)).toArray e)) cI 1 (.slice (some ⟨w.heap.size, 0, none⟩) xs.length xs.length) xs := by
  have h1 : xs.flatMap cI = (xs.map (Value.int .i64)) := by
    induction xs with
    | nil => rfl
    | cons x xs ih => rw [List.flatMap_cons, List.map_cons, ih (by simp at hm; omega)]; rfl
  have h := Own.of_row (xs := xs) (E := cI) (World.ownsRow_lit (base := 0) (e := e) (size := 1) w (xs.map (Value.int .i64)).toArray xs.length (Nat.zero_le _) hm (by simp)) rfl (by simp [h1])
  exact (h.sl cI_len).all (Nat.le_refl _)
set_option maxHeartbeats 4000000 in
set_option maxRecDepth 100000 in
theorem implDistancesTo (vg va : Value) (g : Gr) (a : Au) (y : Int) (w : World) (hgv : GrV 0 w.heap.size w vg g) (hav : AuV 0 w.heap.size w va a) :
    Calls Try.prog 84 #[vg, va, .int .i64 y] w fun e w' => ∃ v', e = .returned v' ∧ Own w.heap.size w'.heap.size w' 3 cI 1 v' (distTo g a y) ∧ Below w.heap.size w w' := by
  have hgv0 := hgv
  have hav0 := hav
  obtain ⟨A1, n1, c1, A2, n2, c2, rfl⟩ := hgv.shape
  obtain ⟨A3, n3, c3, A4, n4, c4, rfl⟩ := hav.shape
  have hb0 : Below w.heap.size w ((w.alloc (.cells #[.slice A1 n1 c1, .slice A2 n2 c2] 48)).alloc (.cells #[.int .i64 a.start, .slice A3 n3 c3, .slice A4 n4 c4] 50)) := ((Below.refl _ _).alloc (Nat.le_refl _) _).alloc (by simp) _
  have hb1 := hb0.alloc hb0.size (.cells #[.int .i64 y] 3)
  have hst : SlE (((w.alloc (.cells #[.slice A1 n1 c1, .slice A2 n2 c2] 48)).alloc (.cells #[.int .i64 a.start, .slice A3 n3 c3, .slice A4 n4 c4] 50)).alloc (.cells #[.int .i64 y] 3)) cI 1 (.slice (some ⟨w.heap.size + 1 + 1, 0, none⟩) 1 1) [y] := by
    have h := lit_sl ((w.alloc (.cells #[.slice A1 n1 c1, .slice A2 n2 c2] 48)).alloc (.cells #[.int .i64 a.start, .slice A3 n3 c3, .slice A4 n4 c4] 50)) 3 [y] (by unfold maxLen; simp)
    simpa using h
  have hbo := bothOk_any _ _ _ g a [y] _ (hgv0.keep hb1) (hav0.keep hb1) hst
  have HBO := Lib.hid hbo
  have HGV := Lib.hid hgv0
  have HAV := Lib.hid hav0
  clear hgv hav hgv0 hav0 hbo hst
  cases hk : ([y].all (fun s => wi s 0 ((g.vals.length : Int) - 1)) && (grOk g && auOk a)) with
  | false =>
    rw [hk] at HBO
    have hfin : distTo g a y = [] := by unfold distTo; rw [if_neg]; simpa using hk
    have HF := Lib.hid hfin
    clear hk hfin
    go_enter Try.func84, Try.ntmps84
    go_wp2_with fail
    refine HBO.out.mono ?_
    rintro e w1 ⟨rfl, hb2⟩
    go_wp2_with fail
    go_ret
    exact ⟨_, rfl, by rw [HF.out]; exact Own.nil _ _ _ _ _ _, below_trans hb1 hb2⟩
  | true =>
    rw [hk] at HBO
    simp only [List.all_cons, List.all_nil, Bool.and_true, Bool.and_eq_true, wi_iff] at hk
    obtain ⟨⟨hy0, hy1⟩, hgo, hao⟩ := hk
    have hgo2 := grOk_iff.1 hgo
    have hfin : distTo g a y = spreadR (g.vals.length * a.accept.length) (turnL (g.vals.length * a.accept.length) (nextI g a)) (goalsL g a y.toNat) := by
      unfold distTo; rw [if_pos]; simp [wi_iff, hy0, hy1, hgo, hao]
    obtain ⟨y, rfl⟩ := Int.eq_ofNat_of_zero_le hy0
    rw [Int.toNat_natCast] at hfin
    have hyn : y < g.vals.length := by omega
    obtain ⟨N, hN⟩ : ∃ N, N = g.vals.length * a.accept.length := ⟨_, rfl⟩
    rw [← hN] at hfin
    have hn5 := hgo2.n5
    have hn1 := hgo2.n1
    have hm12 := (auOk_iff.1 hao).1.2
    have hm1 := (auOk_iff.1 hao).1.1
    have hN60 : N ≤ 60 := by rw [hN]; have := Nat.mul_le_mul hn5 hm12; omega
    have hN1 : 1 ≤ N := by rw [hN]; exact Nat.mul_pos hn1 hm1
    have hnl : ∀ i, i < N → (nextI g a i).length ≤ 288 ∧ ∀ k ∈ nextI g a i, k < N := fun i _ => ⟨nextV_len hgo2 _ _, fun k hk => by rw [hN]; exact nextV_lt hgo2 hao hk⟩
    have htl : ∀ i, i < N → ∀ k ∈ turnL N (nextI g a) i, k < N := fun i _ k hk => (mem_turnL.1 hk).1
    have hgl : ∀ i ∈ goalsL g a y, i < N := fun i hi => by
      obtain ⟨s, hs, _, rfl⟩ := mem_goalsL.1 hi
      rw [hN]; exact vert_lt hyn hs
    have hgll : (goalsL g a y).length ≤ 60 := Nat.le_trans (goalsTo_len g a y _) (by omega)
    have HN := Lib.hid hN
    have HNL := Lib.hid hnl
    have HTL := Lib.hid htl
    have HGL := Lib.hid hgl
    have HGO := Lib.hid hgo2
    have HAO := Lib.hid hao
    have HF := Lib.hid hfin
    clear hN hnl htl hgl hgo hgo2 hao hfin hy0 hy1
    go_enter Try.func84, Try.ntmps84
    go_wp2_with fail
    refine HBO.out.mono ?_
    rintro e w1 ⟨rfl, hb2⟩
    have hb3 := below_trans hb1 hb2
    have b0 := (((Blk.new w 48 #[.slice A1 n1 c1, .slice A2 n2 c2] w.heap.size rfl).alloc (.cells #[.int .i64 a.start, .slice A3 n3 c3, .slice A4 n4 c4] 50)).alloc (.cells #[.int .i64 (y : Int)] 3)).keep hb2
    have b1 := ((Blk.new (w.alloc (.cells #[.slice A1 n1 c1, .slice A2 n2 c2] 48)) 50 #[.int .i64 a.start, .slice A3 n3 c3, .slice A4 n4 c4] (w.heap.size + 1) (by simp)).alloc (.cells #[.int .i64 (y : Int)] 3)).keep hb2
    have x0 : w1.cell? ⟨w.heap.size, 0, none⟩ = some (.slice A1 n1 c1) := b0.cell 0
    have x1 : w1.cell? ⟨w.heap.size, 1, none⟩ = some (.slice A2 n2 c2) := b0.cell 1
    have y0 : w1.cell? ⟨w.heap.size + 1, 0, none⟩ = some (.int .i64 a.start) := b1.cell 0
    have y1 : w1.cell? ⟨w.heap.size + 1, 1, none⟩ = some (.slice A3 n3 c3) := b1.cell 1
    have y2 : w1.cell? ⟨w.heap.size + 1, 2, none⟩ = some (.slice A4 n4 c4) := b1.cell 2
    clear hb0 hb1 hb2 b0 b1 HBO
    go_wp2_with fail
    go_region_held3 (fun w' => w'.cell? ⟨w.heap.size, 0, none⟩ = some (.slice A1 n1 c1) ∧ w'.cell? ⟨w.heap.size, 1, none⟩ = some (.slice A2 n2 c2) ∧ w'.cell? ⟨w.heap.size + 1, 0, none⟩ = some (.int .i64 a.start) ∧ w'.cell? ⟨w.heap.size + 1, 1, none⟩ = some (.slice A3 n3 c3) ∧ w'.cell? ⟨w.heap.size + 1, 2, none⟩ = some (.slice A4 n4 c4))
      (first | (exact ⟨x0, x1, y0, y1, y2⟩) | assumption | (exact kB5 hbA (by assumption)) | (exact kB5 hbB (by assumption)) | (exact kB5 hbC (by assumption)) | (exact kB5 hbD (by assumption)))
      (first | (go_at_call 131; refine (nextVertices_any _ _ g a _ (GrV.keep (w' := w1.drew) HGV.out hb3.drew) (AuV.keep (w' := w1.drew) HAV.out hb3.drew) HGO.out HAO.out).mono ?_; rintro e wA ⟨vA, rfl, hsA, hbA⟩; rw [← HN.out] at hsA) | (go_at_call 130; refine (turned_any vA N (nextI g a) _ (hsA.mono (Nat.zero_le _) (Nat.le_refl _)) hN60 HNL.out).mono ?_; rintro e wB ⟨vB, rfl, hsB, hbB⟩) | (go_at_call 132; refine (goals_any _ _ g a y _ (HGV.out.keep (below_trans (below_trans hb3.drew hbA) hbB)) (HAV.out.keep (below_trans (below_trans hb3.drew hbA) hbB)) HGO.out HAO.out hyn).mono ?_; rintro e wC ⟨vC, rfl, hoC, hbC⟩) | (go_at_call 129; refine (spread_any vB vC N (turnL N (nextI g a)) (goalsL g a y) _ ((hsB.mono (Nat.zero_le _) (Nat.le_refl _)).keep hbC) ((hoC.sl cN_len).all (Nat.le_refl _)) hN1 hN60 hgll HGL.out HTL.out).mono ?_; rintro e wD ⟨vD, rfl, hoD, hbD⟩))
    go_wp2_with fail
    go_ret
    have hbc := below_trans (below_trans (below_trans hb3.drew hbA) hbB) hbC
    exact ⟨_, rfl, by rw [HF.out]; exact hoD.mono hbc.size (Nat.le_refl _), below_trans hbc hbD⟩
end Go.Proofs.Ytmlfkledhnlkeaa
