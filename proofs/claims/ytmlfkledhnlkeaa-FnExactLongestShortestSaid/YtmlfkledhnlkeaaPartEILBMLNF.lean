/- Parts of the proof, joined into one text: GoalI, DistP, DistI, ShortI, BackM, StepsM, AutS, GraphS, HelpStep. -/
import Derived.Test.YtmlfkledhnlkeaaPartHBJDDFLN
import Derived.Test.YtmlfkledhnlkeaaPartBCKJGNPE
import Derived.Test.YtmlfkledhnlkeaaPartAHNDNEAO
import Derived.Test.YtmlfkledhnlkeaaPartCAPLBKNO
import Derived.Test.YtmlfkledhnlkeaaPartELBNBIJK
import Derived.Test.YtmlfkledhnlkeaaPartHGELBPGN
import Derived.Test.YtmlfkledhnlkeaaPartBIGHANEE
/- The program's goals: the vertices of a node that accept. -/
namespace Go.Proofs.Ytmlfkledhnlkeaa
set_option linter.unusedVariables false
set_option linter.unusedSimpArgs false
open Go.ChangeShapes Go.WideShapes Go.ChangeAt Go.RowKit
attribute [local go_sem] ext_cell ext_frozen ext_lt ext_lt1 ext_lt2 ext_lt3 ltn2 ltn3 ltn13 lts1 lts2 lts3

set_option maxHeartbeats 4000000 in
theorem goals_any (vg va : Value) (g : Gr) (a : Au) (y : Nat) (w : World) (hgv : GrV 0 w.heap.size w vg g) (hav : AuV 0 w.heap.size w va a) (hg : GrOk g) (ha : auOk a = true) (hy : y < g.vals.length) :
    Calls Try.prog 132 #[vg, va, .int .i64 (y : Int)] w fun e w' => ∃ v', e = .returned v' ∧ Own w.heap.size w'.heap.size w' 3 cN 1 v' (goalsL g a y) ∧ Below w.heap.size w w' := by
  have hav0 := hav
  obtain ⟨A1, c1, A2, c2, rfl, hl1, hm1, -, -, hC1, -⟩ := hgv.form
  obtain ⟨A3, c3, A4, c4, rfl, hl3, hm3, hl4, hm4, -⟩ := hav.form ha
  have hn5 := hg.n5
  have hn12 := (auOk_iff.1 ha).1.2
  have hxi : g.vals[y]? = some g.vals[y] := List.getElem?_eq_getElem hy
  have hvr := hg.vals _ (List.getElem_mem hy)
  generalize g.vals[y] = vx at hxi hvr
  obtain ⟨vx, rfl⟩ := Int.eq_ofNat_of_zero_le hvr.1
  have hva := valAt_of hxi
  rw [Int.toNat_natCast] at hva
  obtain ⟨b1, o1, rfl, hb1, d1⟩ := hC1.int hxi
  have HAO := Lib.hid ha
  have HAV := Lib.hid hav0
  have HVA := Lib.hid hva
  have hb0 : Below w.heap.size w ((w.alloc (.cells #[.slice (some ⟨b1, o1, none⟩) g.vals.length c1, .slice A2 g.edges.length c2] 48)).alloc (.cells #[.int .i64 a.start, .slice A3 a.accept.length c3, .slice A4 a.accept.length c4] 50)) := ((Below.refl _ _).alloc (Nat.le_refl _) _).alloc (by simp) _
  have hyn : y * a.accept.length + a.accept.length ≤ 60 := by have := Nat.mul_le_mul (show y + 1 ≤ 5 by omega) hn12; rw [Nat.succ_mul] at this; omega
  obtain ⟨yn, hyn2⟩ : ∃ yn, yn = y * a.accept.length := ⟨_, rfl⟩
  rw [← hyn2] at hyn
  have q1 : IntKind.i64.wrap ((y : Int) * (a.accept.length : Int)) = (yn : Int) := by rw [IntWalk.i64_in _ (by rw [← Int.natCast_mul, ← hyn2]; omega), hyn2, Int.natCast_mul]
  have q1' : (y : Int) * (a.accept.length : Int) = (yn : Int) := by rw [hyn2, Int.natCast_mul]
  have q5 : IntKind.i64.wrap (yn : Int) = (yn : Int) := IntWalk.i64_in _ (by omega)
  have HYN := Lib.hid hyn2
  clear hgv hav ha hg hav0 hva hxi hC1 hyn2
  go_enter Try.func132, Try.ntmps132
  go_wp2_with fail
  obtain ⟨W0, hW0⟩ : ∃ W0, W0 = ((w.alloc (.cells #[.slice (some ⟨b1, o1, none⟩) g.vals.length c1, .slice A2 g.edges.length c2] 48)).alloc (.cells #[.int .i64 a.start, .slice A3 a.accept.length c3, .slice A4 a.accept.length c4] 50)) := ⟨_, rfl⟩
  rw [← hW0] at hb0 ⊢
  have x0 : W0.cell? ⟨w.heap.size, 0, none⟩ = some (.slice (some ⟨b1, o1, none⟩) g.vals.length c1) := by rw [hW0]; simp
  have y0 : W0.cell? ⟨w.heap.size + 1, 0, none⟩ = some (.int .i64 a.start) := by rw [hW0]; simp
  have y1 : W0.cell? ⟨w.heap.size + 1, 1, none⟩ = some (.slice A3 a.accept.length c3) := by rw [hW0]; simp
  have y2 : W0.cell? ⟨w.heap.size + 1, 2, none⟩ = some (.slice A4 a.accept.length c4) := by rw [hW0]; simp
  have d1 := kcell hb0 d1
  have l0 : w.heap.size + 1 < W0.heap.size := by rw [hW0]; simp
  have hs0 : w.heap.size + 1 + 1 = W0.heap.size := by rw [hW0]; simp
  rw [hs0]
  clear hW0 hs0
  go_loopw [8, 9] (fun out ii wr => ∃ i : Nat, i ≤ a.accept.length ∧ ii = .int .i64 (i : Int) ∧ wr.ownsRow W0.heap.size 3 1 out (goalsTo g a y i).length ((goalsTo g a y i).flatMap cN) ∧ Below W0.heap.size W0 wr) (fun _ ii _ => a.accept.length - (intOf ii).toNat)
  case atStart => exact ⟨0, Nat.zero_le _, rfl, World.ownsRow_lit W0 #[] 0 (Nat.le_refl _) (by decide) rfl, (Below.refl _ _).alloc (Nat.le_refl _) _⟩
  case round =>
    obtain ⟨i, hi, rfl, hrow, hbel⟩ := hrel
    have HROW := Lib.hid hrow
    have hgl := goalsTo_len g a y i
    clear hrow
    by_cases hlt : i < a.accept.length
    · have x0 := kcell hbel x0
      have y0 := kcell hbel y0
      have y1 := kcell hbel y1
      have y2 := kcell hbel y2
      have d1 := kcell hbel d1
      have hsz := hbel.size
      have hsz0 := hb0.size
      have k0 : w.heap.size < wr.heap.size := by omega
      have k1 : w.heap.size + 1 < wr.heap.size := by omega
      have k2 : b1 < wr.heap.size := by omega
      have hbw := below_trans hb0 hbel
      have s1 := shl_bit (s := i) (by omega)
      have s2 := shl_bit2 (s := i) (by omega)
      have s3 := shl_bit3 (s := i) (by omega)
      have q2 : IntKind.i64.wrap ((yn : Int) + (i : Int)) = (yn : Int) + (i : Int) := IntWalk.i64_in _ (by omega)
      have hyy : (y : Int) < (g.vals.length : Int) := by omega
      cases hb : accC a vx i with
      | true =>
        have hacc : ∀ W, Below w.heap.size w W → Calls Try.prog 95 #[.agg #[.int .i64 a.start, .slice A3 a.accept.length c3, .slice A4 a.accept.length c4], .int .i64 (bit i : Int), .int .i64 (vx : Int)] W fun e w' => e = .returned (.bool true) ∧ Below W.heap.size W w' := fun W hW => by
          have h := acceptsAt_any _ a (bit i) vx W (HAV.out.keep hW) HAO.out (bit_lt hlt) (by omega)
          rwa [acc_one _ _ (show i < 12 by omega), hb] at h
        have HACC := Lib.hid hacc
        have hgt := goalsTo_yes (g := g) (a := a) (y := y) (i := i) (by rw [HVA.out]; exact hb)
        rw [← HYN.out] at hgt
        have HGT := Lib.hid hgt
        clear hacc hb hgt
        go_wp2_with fail
        refine wp_region_ext_lit (by kernel_rfl) (by kernel_rfl) ?_
        repeat (go_big_quiet_step ((go_at_call 95; exact Calls.ext_of (HACC.out _ (below_trans hbw (ext_below _ _))))))
        refine wpQuiet_nil ?_
        intro _ hw'
        obtain ⟨u2, hw''⟩ := hw'
        subst hw''
        have hbx := ext_below wr u2
        have HROX := Lib.hid (ownsRow_below HROW.out hbx (Nat.le_refl _))
        have hszx := hbx.size
        go_wp2_with (at_builtin; (refine wpList_append1 cN elInt rfl _ _ rfl W0.heap.size _ (goalsTo g a y i) (yn + i) _ 1 _ (by rfl) HROX.out (by rfl) rfl rfl rfl (cN_one _) (by omega) (by omega) (by omega) ?_); rw [← HGT.out]; intro v' w4 hrow' hb4 _ _)
        go_roundw
        case rel => exact ⟨i + 1, by omega, by go_num, hrow', (hbel.trans (hbx.mono hsz)).trans hb4⟩
        case measure => simp [intOf]; omega
      | false =>
        have hacc : ∀ W, Below w.heap.size w W → Calls Try.prog 95 #[.agg #[.int .i64 a.start, .slice A3 a.accept.length c3, .slice A4 a.accept.length c4], .int .i64 (bit i : Int), .int .i64 (vx : Int)] W fun e w' => e = .returned (.bool false) ∧ Below W.heap.size W w' := fun W hW => by
          have h := acceptsAt_any _ a (bit i) vx W (HAV.out.keep hW) HAO.out (bit_lt hlt) (by omega)
          rwa [acc_one _ _ (show i < 12 by omega), hb] at h
        have HACC := Lib.hid hacc
        have hgt := goalsTo_no (g := g) (a := a) (y := y) (i := i) (by rw [HVA.out]; exact hb)
        have HGT := Lib.hid hgt
        clear hacc hb hgt
        go_wp2_with fail
        refine wp_region_ext_lit (by kernel_rfl) (by kernel_rfl) ?_
        repeat (go_big_quiet_step ((go_at_call 95; exact Calls.ext_of (HACC.out _ (below_trans hbw (ext_below _ _))))))
        refine wpQuiet_nil ?_
        intro _ hw'
        obtain ⟨u2, hw''⟩ := hw'
        subst hw''
        have hbx := ext_below wr u2
        have HROX := Lib.hid (ownsRow_below HROW.out hbx (Nat.le_refl _))
        go_wp2_with fail
        go_roundw
        case rel => exact ⟨i + 1, by omega, by go_num, by rw [HGT.out]; exact HROX.out, hbel.trans (hbx.mono hsz)⟩
        case measure => simp [intOf]; omega
    · obtain rfl : i = a.accept.length := by omega
      have hown := Own.of_row (xs := goalsTo g a y a.accept.length) (ownsRow_mono HROW.out hb0.size) rfl rfl
      have HO := Lib.hid hown
      clear hown
      go_wp2_with fail
      go_ret
      exact ⟨_, rfl, HO.out, below_trans hb0 hbel⟩
end Go.Proofs.Ytmlfkledhnlkeaa

/- Plain: the distances to a node, and the shortest length. -/
namespace Go.Proofs.Ytmlfkledhnlkeaa
set_option linter.unusedVariables false
set_option linter.unusedSimpArgs false
def distTo (g : Gr) (a : Au) (y : Int) : List Int :=
  if (wi y 0 ((g.vals.length : Int) - 1) && (grOk g && auOk a)) = true then spreadR (g.vals.length * a.accept.length) (turnL (g.vals.length * a.accept.length) (nextI g a)) (goalsL g a y.toNat) else []
def shortLen (g : Gr) (a : Au) (x y : Int) : Int :=
  if (wi x 0 ((g.vals.length : Int) - 1) && (wi y 0 ((g.vals.length : Int) - 1) && (grOk g && auOk a))) = true then (distTo g a y).getD (x.toNat * a.accept.length + a.start.toNat) 0 else -1
theorem distTo_len {g : Gr} {a : Au} {y : Int} (h : (wi y 0 ((g.vals.length : Int) - 1) && (grOk g && auOk a)) = true) : (distTo g a y).length = g.vals.length * a.accept.length := by rw [distTo, if_pos h, spreadR_len]
end Go.Proofs.Ytmlfkledhnlkeaa

/- The program's DistancesTo and ShortestLength. -/
namespace Go.Proofs.Ytmlfkledhnlkeaa
set_option linter.unusedVariables false
set_option linter.unusedSimpArgs false
open Go.ChangeShapes Go.WideShapes Go.ChangeAt Go.RowKit
attribute [local go_sem] ext_cell ext_frozen ext_lt ext_lt1 ext_lt2 ext_lt3 ltn2 ltn3 ltn13 lts1 lts2 lts3

/-- a literal of ints, laid in a block of its own -/
theorem lit_sl (w : World) (e : TypeId) (xs : List Int) (hm : xs.length ≤ maxLen) : SlE (w.alloc (.cells (xs.map (Value.int .i64)).toArray e)) cI 1 (.slice (some ⟨w.heap.size, 0, none⟩) xs.length xs.length) xs := by
  have h1 : xs.flatMap cI = (xs.map (Value.int .i64)) := by
    induction xs with
    | nil => rfl
    | cons x xs ih => rw [List.flatMap_cons, List.map_cons, ih (by simp at hm; omega)]; rfl
  have h := Own.of_row (xs := xs) (E := cI) (World.ownsRow_lit (base := 0) (e := e) (size := 1) w (xs.map (Value.int .i64)).toArray xs.length (Nat.zero_le _) hm (by simp)) rfl (by simp [h1])
  exact (h.sl cI_len).all (Nat.le_refl _)
set_option maxHeartbeats 4000000 in
set_option maxRecDepth 100000 in
theorem implDistancesTo (vg va : Value) (g : Gr) (a : Au) (y : Int) (w : World) (hgv : GrV 0 w.heap.size w vg g) (hav : AuV 0 w.heap.size w va a) :
    Calls Try.prog 84 #[vg, va, .int .i64 y] w fun e w' => ∃ v', e = .returned v' ∧ Own w.heap.size w'.heap.size w' 3 cI 1 v' (distTo g a y) ∧ Below w.heap.size w w' := by
  have hgv0 := hgv
  have hav0 := hav
  obtain ⟨A1, n1, c1, A2, n2, c2, rfl⟩ := hgv.shape
  obtain ⟨A3, n3, c3, A4, n4, c4, rfl⟩ := hav.shape
  have hb0 : Below w.heap.size w ((w.alloc (.cells #[.slice A1 n1 c1, .slice A2 n2 c2] 48)).alloc (.cells #[.int .i64 a.start, .slice A3 n3 c3, .slice A4 n4 c4] 50)) := ((Below.refl _ _).alloc (Nat.le_refl _) _).alloc (by simp) _
  have hb1 := hb0.alloc hb0.size (.cells #[.int .i64 y] 3)
  have hst : SlE (((w.alloc (.cells #[.slice A1 n1 c1, .slice A2 n2 c2] 48)).alloc (.cells #[.int .i64 a.start, .slice A3 n3 c3, .slice A4 n4 c4] 50)).alloc (.cells #[.int .i64 y] 3)) cI 1 (.slice (some ⟨w.heap.size + 1 + 1, 0, none⟩) 1 1) [y] := by
    have h := lit_sl ((w.alloc (.cells #[.slice A1 n1 c1, .slice A2 n2 c2] 48)).alloc (.cells #[.int .i64 a.start, .slice A3 n3 c3, .slice A4 n4 c4] 50)) 3 [y] (by unfold maxLen; simp)
    simpa using h
  have hbo := bothOk_any _ _ _ g a [y] _ (hgv0.keep hb1) (hav0.keep hb1) hst
  have HBO := Lib.hid hbo
  have HGV := Lib.hid hgv0
  have HAV := Lib.hid hav0
  clear hgv hav hgv0 hav0 hbo hst
  cases hk : ([y].all (fun s => wi s 0 ((g.vals.length : Int) - 1)) && (grOk g && auOk a)) with
  | false =>
    rw [hk] at HBO
    have hfin : distTo g a y = [] := by unfold distTo; rw [if_neg]; simpa using hk
    have HF := Lib.hid hfin
    clear hk hfin
    go_enter Try.func84, Try.ntmps84
    go_wp2_with fail
    refine HBO.out.mono ?_
    rintro e w1 ⟨rfl, hb2⟩
    go_wp2_with fail
    go_ret
    exact ⟨_, rfl, by rw [HF.out]; exact Own.nil _ _ _ _ _ _, below_trans hb1 hb2⟩
  | true =>
    rw [hk] at HBO
    simp only [List.all_cons, List.all_nil, Bool.and_true, Bool.and_eq_true, wi_iff] at hk
    obtain ⟨⟨hy0, hy1⟩, hgo, hao⟩ := hk
    have hgo2 := grOk_iff.1 hgo
    have hfin : distTo g a y = spreadR (g.vals.length * a.accept.length) (turnL (g.vals.length * a.accept.length) (nextI g a)) (goalsL g a y.toNat) := by
      unfold distTo; rw [if_pos]; simp [wi_iff, hy0, hy1, hgo, hao]
    obtain ⟨y, rfl⟩ := Int.eq_ofNat_of_zero_le hy0
    rw [Int.toNat_natCast] at hfin
    have hyn : y < g.vals.length := by omega
    obtain ⟨N, hN⟩ : ∃ N, N = g.vals.length * a.accept.length := ⟨_, rfl⟩
    rw [← hN] at hfin
    have hn5 := hgo2.n5
    have hn1 := hgo2.n1
    have hm12 := (auOk_iff.1 hao).1.2
    have hm1 := (auOk_iff.1 hao).1.1
    have hN60 : N ≤ 60 := by rw [hN]; have := Nat.mul_le_mul hn5 hm12; omega
    have hN1 : 1 ≤ N := by rw [hN]; exact Nat.mul_pos hn1 hm1
    have hnl : ∀ i, i < N → (nextI g a i).length ≤ 288 ∧ ∀ k ∈ nextI g a i, k < N := fun i _ => ⟨nextV_len hgo2 _ _, fun k hk => by rw [hN]; exact nextV_lt hgo2 hao hk⟩
    have htl : ∀ i, i < N → ∀ k ∈ turnL N (nextI g a) i, k < N := fun i _ k hk => (mem_turnL.1 hk).1
    have hgl : ∀ i ∈ goalsL g a y, i < N := fun i hi => by
      obtain ⟨s, hs, _, rfl⟩ := mem_goalsL.1 hi
      rw [hN]; exact vert_lt hyn hs
    have hgll : (goalsL g a y).length ≤ 60 := Nat.le_trans (goalsTo_len g a y _) (by omega)
    have HN := Lib.hid hN
    have HNL := Lib.hid hnl
    have HTL := Lib.hid htl
    have HGL := Lib.hid hgl
    have HGO := Lib.hid hgo2
    have HAO := Lib.hid hao
    have HF := Lib.hid hfin
    clear hN hnl htl hgl hgo hgo2 hao hfin hy0 hy1
    go_enter Try.func84, Try.ntmps84
    go_wp2_with fail
    refine HBO.out.mono ?_
    rintro e w1 ⟨rfl, hb2⟩
    have hb3 := below_trans hb1 hb2
    have b0 := (((Blk.new w 48 #[.slice A1 n1 c1, .slice A2 n2 c2] w.heap.size rfl).alloc (.cells #[.int .i64 a.start, .slice A3 n3 c3, .slice A4 n4 c4] 50)).alloc (.cells #[.int .i64 (y : Int)] 3)).keep hb2
    have b1 := ((Blk.new (w.alloc (.cells #[.slice A1 n1 c1, .slice A2 n2 c2] 48)) 50 #[.int .i64 a.start, .slice A3 n3 c3, .slice A4 n4 c4] (w.heap.size + 1) (by simp)).alloc (.cells #[.int .i64 (y : Int)] 3)).keep hb2
    have x0 : w1.cell? ⟨w.heap.size, 0, none⟩ = some (.slice A1 n1 c1) := b0.cell 0
    have x1 : w1.cell? ⟨w.heap.size, 1, none⟩ = some (.slice A2 n2 c2) := b0.cell 1
    have y0 : w1.cell? ⟨w.heap.size + 1, 0, none⟩ = some (.int .i64 a.start) := b1.cell 0
    have y1 : w1.cell? ⟨w.heap.size + 1, 1, none⟩ = some (.slice A3 n3 c3) := b1.cell 1
    have y2 : w1.cell? ⟨w.heap.size + 1, 2, none⟩ = some (.slice A4 n4 c4) := b1.cell 2
    clear hb0 hb1 hb2 b0 b1 HBO
    go_wp2_with fail
    go_region_held3 (fun w' => w'.cell? ⟨w.heap.size, 0, none⟩ = some (.slice A1 n1 c1) ∧ w'.cell? ⟨w.heap.size, 1, none⟩ = some (.slice A2 n2 c2) ∧ w'.cell? ⟨w.heap.size + 1, 0, none⟩ = some (.int .i64 a.start) ∧ w'.cell? ⟨w.heap.size + 1, 1, none⟩ = some (.slice A3 n3 c3) ∧ w'.cell? ⟨w.heap.size + 1, 2, none⟩ = some (.slice A4 n4 c4))
      (first | (exact ⟨x0, x1, y0, y1, y2⟩) | assumption | (exact kB5 hbA (by assumption)) | (exact kB5 hbB (by assumption)) | (exact kB5 hbC (by assumption)) | (exact kB5 hbD (by assumption)))
      (first | (go_at_call 131; refine (nextVertices_any _ _ g a _ (GrV.keep (w' := w1.drew) HGV.out hb3.drew) (AuV.keep (w' := w1.drew) HAV.out hb3.drew) HGO.out HAO.out).mono ?_; rintro e wA ⟨vA, rfl, hsA, hbA⟩; rw [← HN.out] at hsA) | (go_at_call 130; refine (turned_any vA N (nextI g a) _ (hsA.mono (Nat.zero_le _) (Nat.le_refl _)) hN60 HNL.out).mono ?_; rintro e wB ⟨vB, rfl, hsB, hbB⟩) | (go_at_call 132; refine (goals_any _ _ g a y _ (HGV.out.keep (below_trans (below_trans hb3.drew hbA) hbB)) (HAV.out.keep (below_trans (below_trans hb3.drew hbA) hbB)) HGO.out HAO.out hyn).mono ?_; rintro e wC ⟨vC, rfl, hoC, hbC⟩) | (go_at_call 129; refine (spread_any vB vC N (turnL N (nextI g a)) (goalsL g a y) _ ((hsB.mono (Nat.zero_le _) (Nat.le_refl _)).keep hbC) ((hoC.sl cN_len).all (Nat.le_refl _)) hN1 hN60 hgll HGL.out HTL.out).mono ?_; rintro e wD ⟨vD, rfl, hoD, hbD⟩))
    go_wp2_with fail
    go_ret
    have hbc := below_trans (below_trans (below_trans hb3.drew hbA) hbB) hbC
    exact ⟨_, rfl, by rw [HF.out]; exact hoD.mono hbc.size (Nat.le_refl _), below_trans hbc hbD⟩
end Go.Proofs.Ytmlfkledhnlkeaa

/- The program's ShortestLength. -/
namespace Go.Proofs.Ytmlfkledhnlkeaa
set_option linter.unusedVariables false
set_option linter.unusedSimpArgs false
open Go.ChangeShapes Go.WideShapes Go.ChangeAt Go.RowKit
attribute [local go_sem] ext_cell ext_frozen ext_lt ext_lt1 ext_lt2 ext_lt3 ltn2 ltn3 ltn13 lts1 lts2 lts3

set_option maxHeartbeats 4000000 in
set_option maxRecDepth 100000 in
theorem implShortestLength (vg va : Value) (g : Gr) (a : Au) (x y : Int) (w : World) (hgv : GrV 0 w.heap.size w vg g) (hav : AuV 0 w.heap.size w va a) :
    Calls Try.prog 37 #[vg, va, .int .i64 x, .int .i64 y] w fun e w' => e = .returned (.int .i64 (shortLen g a x y)) ∧ Below w.heap.size w w' := by
  have hgv0 := hgv
  have hav0 := hav
  obtain ⟨A1, n1, c1, A2, n2, c2, rfl⟩ := hgv.shape
  obtain ⟨ac, nx, rfl, hac, hnx⟩ := hav
  obtain ⟨A3, c3, rfl, -, -, -⟩ := SlE.form hac
  obtain ⟨A4, n4, c4, rfl⟩ := hnx.shape
  have hb0 : Below w.heap.size w ((w.alloc (.cells #[.slice A1 n1 c1, .slice A2 n2 c2] 48)).alloc (.cells #[.int .i64 a.start, .slice A3 a.accept.length c3, .slice A4 n4 c4] 50)) := ((Below.refl _ _).alloc (Nat.le_refl _) _).alloc (by simp) _
  have hb1 := hb0.alloc hb0.size (.cells #[.int .i64 x, .int .i64 y] 3)
  have hst : SlE (((w.alloc (.cells #[.slice A1 n1 c1, .slice A2 n2 c2] 48)).alloc (.cells #[.int .i64 a.start, .slice A3 a.accept.length c3, .slice A4 n4 c4] 50)).alloc (.cells #[.int .i64 x, .int .i64 y] 3)) cI 1 (.slice (some ⟨w.heap.size + 1 + 1, 0, none⟩) 2 2) [x, y] := by
    have h := lit_sl ((w.alloc (.cells #[.slice A1 n1 c1, .slice A2 n2 c2] 48)).alloc (.cells #[.int .i64 a.start, .slice A3 a.accept.length c3, .slice A4 n4 c4] 50)) 3 [x, y] (by unfold maxLen; simp)
    simpa using h
  have hbo := bothOk_any _ _ _ g a [x, y] _ (hgv0.keep hb1) (hav0.keep hb1) hst
  have HBO := Lib.hid hbo
  have HGV := Lib.hid hgv0
  have HAV := Lib.hid hav0
  clear hgv hac hnx hgv0 hav0 hbo hst
  cases hk : ([x, y].all (fun s => wi s 0 ((g.vals.length : Int) - 1)) && (grOk g && auOk a)) with
  | false =>
    rw [hk] at HBO
    have hfin : shortLen g a x y = -1 := by unfold shortLen; rw [if_neg]; simpa [Bool.and_assoc] using hk
    have HF := Lib.hid hfin
    clear hk hfin
    go_enter Try.func37, Try.ntmps37
    go_wp2_with fail
    refine HBO.out.mono ?_
    rintro e w1 ⟨rfl, hb2⟩
    go_wp2_with fail
    go_ret
    exact ⟨by rw [HF.out]; rfl, below_trans hb1 hb2⟩
  | true =>
    rw [hk] at HBO
    simp only [List.all_cons, List.all_nil, Bool.and_true, Bool.and_eq_true, wi_iff] at hk
    obtain ⟨⟨⟨hx0, hx1⟩, hy0, hy1⟩, hgo, hao⟩ := hk
    have hdl := distTo_len (g := g) (a := a) (y := y) (by simp [wi_iff, hy0, hy1, hgo, hao])
    obtain ⟨x, rfl⟩ := Int.eq_ofNat_of_zero_le hx0
    have hst0 := (auOk_iff.1 hao).2.1
    have hm12 := (auOk_iff.1 hao).1.2
    have hn5 := (grOk_iff.1 hgo).n5
    obtain ⟨xn, hxn⟩ : ∃ xn, xn = x * a.accept.length := ⟨_, rfl⟩
    have hxn2 : xn + a.accept.length ≤ g.vals.length * a.accept.length := by rw [hxn]; have := Nat.mul_le_mul_right a.accept.length (show x + 1 ≤ g.vals.length by omega); rw [Nat.succ_mul] at this; exact this
    have hN60 : g.vals.length * a.accept.length ≤ 60 := by have := Nat.mul_le_mul hn5 hm12; omega
    rw [← hdl] at hxn2 hN60
    obtain ⟨ix, hix⟩ : ∃ ix : Nat, (ix : Int) = (xn : Int) + a.start := ⟨(xn + a.start.toNat), by omega⟩
    have hixl : ix < (distTo g a y).length := by omega
    have hfin : shortLen g a x y = (distTo g a y).getD ix 0 := by
      unfold shortLen
      rw [if_pos (by simp [wi_iff, hx0, hx1, hy0, hy1, hgo, hao]), Int.toNat_natCast, ← hxn]
      congr 1
      omega
    have hget := getD_of hixl
    have q1 : IntKind.i64.wrap ((x : Int) * (a.accept.length : Int)) = (xn : Int) := by rw [IntWalk.i64_in _ (by rw [← Int.natCast_mul, ← hxn]; omega), hxn, Int.natCast_mul]
    have q1' : (x : Int) * (a.accept.length : Int) = (xn : Int) := by rw [hxn, Int.natCast_mul]
    have q2 : IntKind.i64.wrap ((xn : Int) + a.start) = (ix : Int) := by rw [← hix]; exact IntWalk.i64_in _ (by omega)
    have q2' : (xn : Int) + a.start = (ix : Int) := hix.symm
    have q5 : IntKind.i64.wrap (xn : Int) = (xn : Int) := IntWalk.i64_in _ (by omega)
    have q6 : IntKind.i64.wrap (ix : Int) = (ix : Int) := IntWalk.i64_in _ (by omega)
    have hixi : (ix : Int) < ((distTo g a y).length : Int) := by omega
    have hix0 : (0 : Int) ≤ (ix : Int) := by omega
    have HF := Lib.hid hfin
    have HGET := Lib.hid hget
    have Q1 := Lib.hid q1
    have Q1' := Lib.hid q1'
    have Q2 := Lib.hid q2
    have Q2' := Lib.hid q2'
    have Q5 := Lib.hid q5
    have Q6 := Lib.hid q6
    clear hget hfin hxn hix hgo hao hdl hx0 hx1 hy0 hy1 hst0 q1 q1' q2 q2' q5 q6
    go_enter Try.func37, Try.ntmps37
    go_wp2_with fail
    refine HBO.out.mono ?_
    rintro e w1 ⟨rfl, hb2⟩
    have hb3 := below_trans hb1 hb2
    have b0 := (((Blk.new w 48 #[.slice A1 n1 c1, .slice A2 n2 c2] w.heap.size rfl).alloc (.cells #[.int .i64 a.start, .slice A3 a.accept.length c3, .slice A4 n4 c4] 50)).alloc (.cells #[.int .i64 (x : Int), .int .i64 y] 3)).keep hb2
    have b1 := ((Blk.new (w.alloc (.cells #[.slice A1 n1 c1, .slice A2 n2 c2] 48)) 50 #[.int .i64 a.start, .slice A3 a.accept.length c3, .slice A4 n4 c4] (w.heap.size + 1) (by simp)).alloc (.cells #[.int .i64 (x : Int), .int .i64 y] 3)).keep hb2
    have x0 : w1.cell? ⟨w.heap.size, 0, none⟩ = some (.slice A1 n1 c1) := b0.cell 0
    have x1 : w1.cell? ⟨w.heap.size, 1, none⟩ = some (.slice A2 n2 c2) := b0.cell 1
    have y0 : w1.cell? ⟨w.heap.size + 1, 0, none⟩ = some (.int .i64 a.start) := b1.cell 0
    have y1 : w1.cell? ⟨w.heap.size + 1, 1, none⟩ = some (.slice A3 a.accept.length c3) := b1.cell 1
    have y2 : w1.cell? ⟨w.heap.size + 1, 2, none⟩ = some (.slice A4 n4 c4) := b1.cell 2
    clear hb0 hb1 hb2 b0 b1 HBO
    go_wp2_with fail
    have q1 := Q1.out
    have q1' := Q1'.out
    have q2 := Q2.out
    have q2' := Q2'.out
    have q5 := Q5.out
    have q6 := Q6.out
    refine F_start 14 (fun w' => w'.cell? ⟨w.heap.size, 0, none⟩ = some (.slice A1 n1 c1) ∧ w'.cell? ⟨w.heap.size, 1, none⟩ = some (.slice A2 n2 c2) ∧ w'.cell? ⟨w.heap.size + 1, 0, none⟩ = some (.int .i64 a.start) ∧ w'.cell? ⟨w.heap.size + 1, 1, none⟩ = some (.slice A3 a.accept.length c3) ∧ w'.cell? ⟨w.heap.size + 1, 2, none⟩ = some (.slice A4 n4 c4)) (by kernel_rfl) (by exact ⟨x0, x1, y0, y1, y2⟩) (fun hS inv => ?_)
    refine F_take (i := 0) (v := ?_) rfl (by kernel_rfl) (by kernel_rfl) (by kernel_rfl) (fun _ _ _ h => h) inv (Or.inl ⟨by rfl, ?_⟩) (by assumption) (fun invn => ?_)
    rotate_left
    · (intro w hSw; (try dsimp only at hSw); go_simp; try with_reducible rfl)
    try simp only [List.getElem_toArray, List.getElem_cons_zero, List.getElem_cons_succ, Act.put, List.setIfInBounds_toArray, List.set_cons_zero, List.set_cons_succ]
    clear inv
    have inv := invn
    clear invn
    refine F_take (i := 1) (v := ?_) rfl (by kernel_rfl) (by kernel_rfl) (by kernel_rfl) (fun _ _ _ h => h) inv (Or.inl ⟨by rfl, ?_⟩) (by assumption) (fun invn => ?_)
    rotate_left
    · (intro w hSw; (try dsimp only at hSw); go_simp; try with_reducible rfl)
    try simp only [List.getElem_toArray, List.getElem_cons_zero, List.getElem_cons_succ, Act.put, List.setIfInBounds_toArray, List.set_cons_zero, List.set_cons_succ]
    clear inv
    have inv := invn
    clear invn
    refine F_take (i := 2) (v := ?_) rfl (by kernel_rfl) (by kernel_rfl) (by kernel_rfl) (fun _ _ _ h => h) inv (Or.inl ⟨by rfl, ?_⟩) (by assumption) (fun invn => ?_)
    rotate_left
    · (intro w hSw; (try dsimp only at hSw); go_simp; try with_reducible rfl)
    try simp only [List.getElem_toArray, List.getElem_cons_zero, List.getElem_cons_succ, Act.put, List.setIfInBounds_toArray, List.set_cons_zero, List.set_cons_succ]
    clear inv
    have inv := invn
    clear invn
    refine F_take (i := 4) (v := ?_) rfl (by kernel_rfl) (by kernel_rfl) (by kernel_rfl) (fun _ _ _ h => h) inv (Or.inl ⟨by rfl, ?_⟩) (by assumption) (fun invn => ?_)
    rotate_left
    · (intro w hSw; (try dsimp only at hSw); go_simp; try with_reducible rfl)
    try simp only [List.getElem_toArray, List.getElem_cons_zero, List.getElem_cons_succ, Act.put, List.setIfInBounds_toArray, List.set_cons_zero, List.set_cons_succ]
    clear inv
    have inv := invn
    clear invn
    refine F_take (i := 5) (v := ?_) rfl (by kernel_rfl) (by kernel_rfl) (by kernel_rfl) (fun _ _ _ h => h) inv (Or.inl ⟨by rfl, ?_⟩) (by assumption) (fun invn => ?_)
    rotate_left
    · (intro w hSw; (try dsimp only at hSw); go_simp; try with_reducible rfl)
    try simp only [List.getElem_toArray, List.getElem_cons_zero, List.getElem_cons_succ, Act.put, List.setIfInBounds_toArray, List.set_cons_zero, List.set_cons_succ]
    clear inv
    have inv := invn
    clear invn
    refine F_take (i := 6) (v := ?_) rfl (by kernel_rfl) (by kernel_rfl) (by kernel_rfl) (fun _ _ _ h => h) inv (Or.inl ⟨by rfl, ?_⟩) (by assumption) (fun invn => ?_)
    rotate_left
    · (intro w hSw; (try dsimp only at hSw); go_simp; try with_reducible rfl)
    try simp only [List.getElem_toArray, List.getElem_cons_zero, List.getElem_cons_succ, Act.put, List.setIfInBounds_toArray, List.set_cons_zero, List.set_cons_succ]
    clear inv
    have inv := invn
    clear invn
    refine F_take (i := 7) (v := ?_) rfl (by kernel_rfl) (by kernel_rfl) (by kernel_rfl) (fun _ _ _ h => h) inv (Or.inl ⟨by rfl, ?_⟩) (by assumption) (fun invn => ?_)
    rotate_left
    · (intro w hSw; (try dsimp only at hSw); go_simp; try with_reducible rfl)
    try simp only [List.getElem_toArray, List.getElem_cons_zero, List.getElem_cons_succ, Act.put, List.setIfInBounds_toArray, List.set_cons_zero, List.set_cons_succ]
    clear inv
    have inv := invn
    clear invn
    refine F_take (i := 8) (v := ?_) rfl (by kernel_rfl) (by kernel_rfl) (by kernel_rfl) (fun _ _ _ h => h) inv (Or.inl ⟨by rfl, ?_⟩) (by assumption) (fun invn => ?_)
    rotate_left
    · (intro w hSw; (try dsimp only at hSw); go_simp; try with_reducible rfl)
    try simp only [List.getElem_toArray, List.getElem_cons_zero, List.getElem_cons_succ, Act.put, List.setIfInBounds_toArray, List.set_cons_zero, List.set_cons_succ]
    clear inv
    have inv := invn
    clear invn
    refine F_take (i := 9) (v := ?_) rfl (by kernel_rfl) (by kernel_rfl) (by kernel_rfl) (fun _ _ _ h => h) inv (Or.inl ⟨by rfl, ?_⟩) (by assumption) (fun invn => ?_)
    rotate_left
    · (intro w hSw; (try dsimp only at hSw); go_simp; try with_reducible rfl)
    try simp only [List.getElem_toArray, List.getElem_cons_zero, List.getElem_cons_succ, Act.put, List.setIfInBounds_toArray, List.set_cons_zero, List.set_cons_succ]
    clear inv
    have inv := invn
    clear invn
    refine F_take (i := 10) (v := ?_) rfl (by kernel_rfl) (by kernel_rfl) (by kernel_rfl) (fun _ _ _ h => h) inv (Or.inl ⟨by rfl, ?_⟩) (by assumption) (fun invn => ?_)
    rotate_left
    · (intro w hSw; (try dsimp only at hSw); go_simp; try with_reducible rfl)
    try simp only [List.getElem_toArray, List.getElem_cons_zero, List.getElem_cons_succ, Act.put, List.setIfInBounds_toArray, List.set_cons_zero, List.set_cons_succ]
    clear inv
    have inv := invn
    clear invn
    refine F_take (i := 11) (v := ?_) rfl (by kernel_rfl) (by kernel_rfl) (by kernel_rfl) (fun _ _ _ h => h) inv (Or.inl ⟨by rfl, ?_⟩) (by assumption) (fun invn => ?_)
    rotate_left
    · (intro w hSw; (try dsimp only at hSw); go_simp; try with_reducible rfl)
    try simp only [List.getElem_toArray, List.getElem_cons_zero, List.getElem_cons_succ, Act.put, List.setIfInBounds_toArray, List.set_cons_zero, List.set_cons_succ]
    clear inv
    have inv := invn
    clear invn
    refine F_one (i := 3) (by kernel_rfl) rfl rfl (by omega) inv (fun K hK => ?_)
    try simp only [List.getElem_toArray, List.getElem_cons_zero, List.getElem_cons_succ]
    go_simp
    refine (implDistancesTo _ _ g a y _ (GrV.keep (w' := w1.drew) HGV.out hb3.drew) (AuV.keep (w' := w1.drew) HAV.out hb3.drew)).mono ?_
    rintro e wD ⟨vD, rfl, hoD, hbD⟩
    obtain ⟨A5, c5, rfl, hl5, hm5, hC5⟩ := hoD.form cI_len
    obtain ⟨b5, o5, rfl, hb5, d5⟩ := hC5.int HGET.out
    refine hK.out _ _ (kB5 hbD hS) (fun hSn invn => ?_)
    try simp only [List.getElem_toArray, List.getElem_cons_zero, List.getElem_cons_succ, Act.put, List.setIfInBounds_toArray, List.set_cons_zero, List.set_cons_succ]
    clear hK K inv hS
    have inv := invn
    have hS := hSn
    clear invn hSn
    refine F_take (i := 12) (v := ?_) rfl (by kernel_rfl) (by kernel_rfl) (by kernel_rfl) (fun _ _ _ h => h) inv (Or.inl ⟨by rfl, ?_⟩) (by assumption) (fun invn => ?_)
    rotate_left
    · (intro w hSw; (try dsimp only at hSw); go_simp; try with_reducible rfl)
    try simp only [List.getElem_toArray, List.getElem_cons_zero, List.getElem_cons_succ, Act.put, List.setIfInBounds_toArray, List.set_cons_zero, List.set_cons_succ]
    clear inv
    have inv := invn
    clear invn
    refine F_one (i := 13) (by kernel_rfl) rfl rfl (by omega) inv (fun K hK => ?_)
    try simp only [List.getElem_toArray, List.getElem_cons_zero, List.getElem_cons_succ]
    go_simp
    refine hK.out _ _ (hS) (fun hSn invn => ?_)
    try simp only [List.getElem_toArray, List.getElem_cons_zero, List.getElem_cons_succ, Act.put, List.setIfInBounds_toArray, List.set_cons_zero, List.set_cons_succ]
    clear hK K inv hS
    have inv := invn
    have hS := hSn
    clear invn hSn
    refine F_last (i := 14) (by kernel_rfl) rfl rfl (by omega) (by kernel_rfl) (fun K hK => ?_)
    go_simp
    refine hK _ _ ?_
    clear hK K inv hS
    clear q1 q1' q2 q2' q5 q6
    go_wp2_with fail
    go_ret
    exact ⟨by rw [HF.out]; simp [List.getElem?_eq_getElem hixl], below_trans hb3.drew hbD⟩
end Go.Proofs.Ytmlfkledhnlkeaa

/- Plain: the distances to a node by sweeps, as the reference finds them. -/
namespace Go.Proofs.Ytmlfkledhnlkeaa
set_option linter.unusedVariables false
set_option linter.unusedSimpArgs false
/-- the first list -/
def ini (g : Gr) (a : Au) (y z : Nat) : Int := if (z / a.accept.length == y && accC a (valAt g y) (z % a.accept.length)) = true then 0 else -1
def iniL (g : Gr) (a : Au) (y k : Nat) : List Int := (List.range k).map (ini g a y)
theorem iniL_len (g : Gr) (a : Au) (y k : Nat) : (iniL g a y k).length = k := by simp [iniL]
theorem iniL_snoc (g : Gr) (a : Au) (y k : Nat) : iniL g a y (k + 1) = iniL g a y k ++ [ini g a y k] := by simp [iniL, List.range_succ]
theorem iniL_at {g : Gr} {a : Au} {y k i : Nat} (h : i < k) : (iniL g a y k).getD i 0 = ini g a y i := by simp [iniL, List.getD, h]
theorem ini_goal {g : Gr} {a : Au} {y z : Nat} (hn : 0 < a.accept.length) : (z / a.accept.length == y && accC a (valAt g y) (z % a.accept.length)) = true ↔ z ∈ goalsL g a y := by
  rw [mem_goalsL, Bool.and_eq_true, beq_iff_eq]
  constructor
  · rintro ⟨rfl, h⟩
    exact ⟨z % a.accept.length, Nat.mod_lt _ hn, h, by rw [Nat.mul_comm]; exact (Nat.div_add_mod z _).symm⟩
  · rintro ⟨s, hs, hc, rfl⟩
    have h1 : (y * a.accept.length + s) / a.accept.length = y := by rw [Nat.mul_comm, Nat.mul_add_div hn, Nat.div_eq_of_lt hs]; rfl
    have h2 : (y * a.accept.length + s) % a.accept.length = s := by rw [Nat.mul_comm, Nat.mul_add_mod, Nat.mod_eq_of_lt hs]
    rw [h1, h2]
    exact ⟨rfl, hc⟩
theorem ini_SwO {g : Gr} {a : Au} {y N : Nat} (hn : 0 < a.accept.length) (next : Nat → List Nat) : SwO next (fun i => i ∈ goalsL g a y) N (iniL g a y N) 0 := by
  refine ⟨iniL_len .., fun i hi => ?_⟩
  rw [iniL_at hi, ini]
  by_cases h : (i / a.accept.length == y && accC a (valAt g y) (i % a.accept.length)) = true
  · rw [if_pos h]
    exact .inr ⟨Int.le_refl _, Int.le_refl _, .inr ⟨Int.le_refl _, (ini_goal hn).1 h, fun m hm => absurd hm (by simp)⟩⟩
  · rw [if_neg h]
    refine .inl ⟨rfl, fun m hm => ?_⟩
    obtain rfl : m = 0 := by omega
    exact fun hg => h ((ini_goal hn).2 hg)
/-- what the sweeps find is what the search found -/
theorem sweep_eq {g : Gr} {a : Au} {y : Nat} (hg : grOk g = true) (ha : auOk a = true) (hy : y < g.vals.length) {D : List Int} (hl : D.length = g.vals.length * a.accept.length)
    (h : ∀ i, i < g.vals.length * a.accept.length → IsDist (nextI g a) (fun i => i ∈ goalsL g a y) i (D.getD i 0)) : D = distTo g a (y : Int) := by
  have hd : (wi (y : Int) 0 ((g.vals.length : Int) - 1) && (grOk g && auOk a)) = true := by
    simp only [Bool.and_eq_true]
    exact ⟨by rw [wi_iff]; omega, hg, ha⟩
  have hN : ∀ i k, i < g.vals.length * a.accept.length → k ∈ nextI g a i → k < g.vals.length * a.accept.length := fun i k _ hk => nextV_lt (grOk_iff.1 hg) ha hk
  have hfs : ∀ i ∈ goalsL g a y, i < g.vals.length * a.accept.length := fun i hi => by
    obtain ⟨s, hs, _, rfl⟩ := mem_goalsL.1 hi
    calc y * a.accept.length + s < y * a.accept.length + a.accept.length := by omega
      _ = (y + 1) * a.accept.length := by rw [Nat.add_mul, Nat.one_mul]
      _ ≤ _ := Nat.mul_le_mul_right _ hy
  rw [distTo, if_pos hd, Int.toNat_natCast]
  refine List.ext_getElem (by rw [hl, spreadR_len]) fun i h1 h2 => ?_
  have hi : i < g.vals.length * a.accept.length := by omega
  have e := (h i hi).uniq (spread_dist hfs hN i hi)
  simpa [List.getD, h1, h2] using e
/-! ### The sweeps' rounds -/
section
variable {next : Nat → List Nat} {goal : Nat → Prop} {N : Nat} {D D0 : List Int} {e i k : Nat} {ch ch0 : Bool}
/-- within a sweep, at vertex i, with k of its next ones looked at -/
def KI (next : Nat → List Nat) (D0 : List Int) (ch0 : Bool) (e i k : Nat) (D : List Int) (ch : Bool) : Prop :=
  (D = D0 ∧ ch = ch0 ∧ ∀ v ∈ (next i).take k, D0.getD v 0 ≠ (e : Int)) ∨ (D = D0.set i ((e : Int) + 1) ∧ ch = true ∧ D0.getD i 0 < 0 ∧ ∃ v ∈ next i, D0.getD v 0 = (e : Int))
def CI (e N : Nat) (D : List Int) (ch : Bool) : Prop := e + negs D ≤ N ∧ (ch = true → e + negs D + 1 ≤ N)
/-- after sweeps -/
def SW (next : Nat → List Nat) (goal : Nat → Prop) (N e : Nat) (D : List Int) (ch : Bool) : Prop :=
  D.length = N ∧ (ch = true → SwO next goal N D e ∧ e + negs D ≤ N) ∧ (ch = false → ∀ i, i < N → IsDist next goal i (D.getD i 0))
theorem KI.start : KI next D0 ch0 e i 0 D0 ch0 := .inl ⟨rfl, rfl, by simp⟩
theorem KI.len (h : KI next D0 ch0 e i k D ch) : D.length = D0.length := by
  rcases h with ⟨rfl, _⟩ | ⟨rfl, _⟩ <;> simp
theorem KI.neg (h : KI next D0 ch0 e i k D ch) (hi : i < D0.length) (hn : D.getD i 0 < 0) : D = D0 ∧ ch = ch0 ∧ ∀ v ∈ (next i).take k, D0.getD v 0 ≠ (e : Int) := by
  rcases h with h | ⟨rfl, _⟩
  · exact h
  · rw [getD_set' hi, if_pos rfl] at hn
    omega
theorem KI.miss (h : KI next D0 ch0 e i k D ch) (hi : i < D0.length) (hn : D.getD i 0 < 0) {v : Nat} (hv : (next i)[k]? = some v) (hd : ¬ D.getD v 0 = (e : Int)) : KI next D0 ch0 e i (k + 1) D ch := by
  obtain ⟨rfl, rfl, h3⟩ := h.neg hi hn
  refine .inl ⟨rfl, rfl, fun x hx => ?_⟩
  rw [take_snoc hv, List.mem_append, List.mem_singleton] at hx
  rcases hx with hx | rfl
  · exact h3 x hx
  · exact hd
theorem KI.hit (h : KI next D0 ch0 e i k D ch) (hi : i < D0.length) (hn : D.getD i 0 < 0) {v : Nat} (hv : (next i)[k]? = some v) (hd : D.getD v 0 = (e : Int)) : KI next D0 ch0 e i (k + 1) (D.set i ((e : Int) + 1)) true := by
  obtain ⟨rfl, rfl, h3⟩ := h.neg hi hn
  exact .inr ⟨rfl, rfl, hn, v, List.mem_of_getElem? hv, hd⟩
theorem KI.fin (h : KI next D0 ch0 e i k D ch) (hs : SwI next goal N D0 e i ch0) (hi : i < N) (hk : (next i).length ≤ k ∨ ¬ D.getD i 0 < 0) (hnN : ∀ i k, i < N → k ∈ next i → k < N) : SwI next goal N D e (i + 1) ch := by
  rcases h with ⟨rfl, rfl, h3⟩ | ⟨rfl, rfl, h3, v, hv, hd⟩
  · refine hs.skip ?_ hnN
    rcases hk with hk | hk
    · exact .inr fun v hv => h3 v (by rw [List.take_of_length_le hk]; exact hv)
    · exact .inl hk
  · exact hs.put hi h3 hv hd hnN
theorem KI.cnt (h : KI next D0 ch0 e i k D ch) (hc : CI e N D0 ch0) (hi : i < D0.length) : CI e N D ch := by
  rcases h with ⟨rfl, rfl, _⟩ | ⟨rfl, rfl, h3, _⟩
  · exact hc
  · have h1 := negs_set (k := i) (d := (e : Int) + 1) hi h3 (by omega)
    have h2 := hc.1
    exact ⟨by omega, fun _ => by omega⟩
theorem SW.enter (h : SW next goal N e D true) : SwI next goal N D e 0 false ∧ CI e N D false := ⟨(h.2.1 rfl).1.enter, (h.2.1 rfl).2, by simp⟩
theorem SW.leave (h : SwI next goal N D e N ch) (hc : CI e N D ch) (hnN : ∀ i k, i < N → k ∈ next i → k < N) : SW next goal N (e + 1) D ch := by
  refine ⟨h.1, fun ht => ⟨h.leave, ?_⟩, fun hf => ?_⟩
  · have := hc.2 ht; omega
  · subst hf; exact h.stop hnN
theorem SW.ini (h : SwO next goal N D 0) : SW next goal N 0 D true := by
  refine ⟨h.1, fun _ => ⟨h, ?_⟩, by simp⟩
  have := List.countP_le_length (p := fun x : Int => decide (x < 0)) (l := D)
  rw [h.1] at this
  simpa [negs] using this
theorem CI.le (h : CI e N D ch) : e ≤ N := by have := h.1; omega
end
end Go.Proofs.Ytmlfkledhnlkeaa

/- Plain: the steps of the product from a vertex, as the reference lists them. -/
namespace Go.Proofs.Ytmlfkledhnlkeaa
set_option linter.unusedVariables false
set_option linter.unusedSimpArgs false
abbrev PS := St × Int × Int
def psA (g : Gr) (a : Au) (x s : Nat) (y : Arc) : List PS := (mem 12 (aft a (bit s) (valAt g x) y.2.1.toNat)).map fun (q : Nat) => (y.1, y.2.2, (q : Int))
def prodSteps (g : Gr) (a : Au) (x s : Nat) : List PS := (arcsOf g (x : Int)).flatMap (psA g a x s)
def psV (n : Nat) (p : PS) : Nat := p.2.1.toNat * n + p.2.2.toNat
theorem psV_next (g : Gr) (a : Au) (x s : Nat) : (prodSteps g a x s).map (psV a.accept.length) = nextV g a x s := by
  unfold prodSteps nextV
  rw [List.map_flatMap]
  congr 1
  funext y
  unfold psA nextA
  rw [List.map_map]
  apply List.map_congr_left
  intro q _
  simp [psV]
theorem psA_len (g : Gr) (a : Au) (x s : Nat) (y : Arc) : (psA g a x s y).length ≤ 12 := by rw [psA, List.length_map]; exact mem_len _ _
theorem prodSteps_len {g : Gr} (hg : GrOk g) (a : Au) (x s : Nat) : (prodSteps g a x s).length ≤ 288 := by
  have h2 := flat_len (psA_len g a x s) (arcsOf g (x : Int))
  have h3 := arcs_len hg (x : Int)
  unfold prodSteps
  omega
theorem prodSteps_range {g : Gr} {a : Au} (hg : GrOk g) (ha : auOk a = true) {x s : Nat} {p : PS} (h : p ∈ prodSteps g a x s) : (0 ≤ p.2.1 ∧ p.2.1 ≤ (g.vals.length : Int) - 1) ∧ 0 ≤ p.2.2 ∧ p.2.2 < (a.accept.length : Int) := by
  obtain ⟨y, hy, hp⟩ := List.mem_flatMap.1 h
  obtain ⟨q, hq, rfl⟩ := List.mem_map.1 hp
  have h1 := (arc_range hg hy).2
  have h2 := aft_lt ha (bit s) (valAt g x) y.2.1.toNat
  rw [mem12 ha h2, mem_mem] at hq
  exact ⟨h1, by simp only; omega, by simp only; omega⟩
def foldTo (a : Au) (l set q : Nat) : Nat := (mem q set).foldl (aft1 a l) 0
theorem foldTo_no {a : Au} {l set q : Nat} (h : set.testBit q = false) : foldTo a l set (q + 1) = foldTo a l set q := by rw [foldTo, mem_no h]; rfl
theorem foldTo_yes {a : Au} {l set q : Nat} (h : set.testBit q = true) : foldTo a l set (q + 1) = aft1 a l (foldTo a l set q) q := by rw [foldTo, mem_yes h, List.foldl_append]; rfl
theorem foldTo_lt {a : Au} (h : auOk a = true) (l set q : Nat) : foldTo a l set q < 2 ^ a.accept.length := foldl_inv (P := fun m => m < 2 ^ a.accept.length) (fun m x hm => aft1_lt h l m x hm) _ _ (Nat.two_pow_pos _)
theorem foldTo_all {a : Au} (h : auOk a = true) {v s l : Nat} (hs : s < a.accept.length) : foldTo a l (cls a v s) a.accept.length = aft a (bit s) v l := by
  rw [aft_one v l (show s < 12 by have := (auOk_iff.1 h).1.2; omega), mem12 h (cls_lt h v s hs)]; rfl
end Go.Proofs.Ytmlfkledhnlkeaa

/- The reference's functions on automata. -/
namespace Go.Proofs.Ytmlfkledhnlkeaa
set_option linter.unusedVariables false
set_option linter.unusedSimpArgs false
open Go.ChangeShapes Go.WideShapes Go.ChangeAt Go.RowKit
attribute [local go_sem] ext_cell ext_frozen ext_lt ext_lt1 ext_lt2 ext_lt3 ltn2 ltn3 ltn13 lts1 lts2 lts3

theorem l1In_any (n a b : Int) (w : World) : Calls Try.prog 77 #[.int .i64 n, .int .i64 a, .int .i64 b] w fun e w' => e = .returned (.bool (wi n a b)) ∧ w' = w := by
  unfold wi
  by_cases h1 : a ≤ n
  · have e1 : decide (a ≤ n) = true := by simpa using h1
    by_cases h2 : n ≤ b
    · go_enter Try.func77, Try.ntmps77
      go_wp2
      go_ret
      exact ⟨by simp [h1, h2], rfl⟩
    · go_enter Try.func77, Try.ntmps77
      go_wp2
      go_ret
      exact ⟨by simp [h1]; try omega, rfl⟩
  · have e1 : decide (a ≤ n) = false := by simpa using h1
    go_enter Try.func77, Try.ntmps77
    go_wp2
    go_ret
    exact ⟨by simp [h1]; try omega, rfl⟩

def auFits (a : Au) : Bool := wi a.start 0 ((a.accept.length : Int) - 1) && (a.next.length == a.accept.length) && a.next.all (rowOk a.accept.length)
theorem auFits_ok (a : Au) : (decide (a.accept.length ≤ 12) && auFits a) = auOk a := by
  rw [Bool.eq_iff_iff]
  simp only [auFits, auOk, Bool.and_eq_true, decide_eq_true_eq, wi_iff, beq_iff_eq]
  constructor
  · rintro ⟨h1, ⟨h2, h3⟩, h4⟩
    exact ⟨⟨⟨by omega, h2⟩, h3⟩, h4⟩
  · rintro ⟨⟨⟨h1, h2⟩, h3⟩, h4⟩
    exact ⟨by omega, ⟨h2, h3⟩, h4⟩

set_option maxHeartbeats 1000000 in
theorem l11Fits_any (v : Value) (a : Au) (w : World) (hv : AuV 0 w.heap.size w v a) :
    Calls Try.prog 137 #[v] w fun e w' => e = .returned (.bool (auFits a)) ∧ Below w.heap.size w w' := by
  obtain ⟨ac, nx, rfl, ⟨A1, c1, rfl, hl1, hm1, -⟩, us, ⟨A2, c2, rfl, hl2, hm2, hx2⟩, hul, hrows⟩ := hv
  rw [hul] at hl2 ⊢
  have HU := Lib.hid hul
  clear hul
  unfold maxLen at hm1 hm2
  have hb0 : Below w.heap.size w (w.alloc (.cells #[.int .i64 a.start, .slice A1 a.accept.length c1, .slice A2 a.next.length c2] 50)) := (Below.refl _ _).alloc (Nat.le_refl _) _
  have HW := Lib.hid l1In_any
  by_cases g2 : wi a.start 0 ((a.accept.length : Int) - 1) = true
  · by_cases g3 : a.next.length = a.accept.length
    · have HG3 := Lib.hid g3
      have g3' : ((a.next.length : Int) != (a.accept.length : Int)) = false := by simp; omega
      have hr : auFits a = a.next.all (rowOk a.accept.length) := by simp [auFits, g2, g3]
      have HR := Lib.hid hr
      clear hr g3
      obtain ⟨hn1, hn2⟩ := wi_iff.1 g2
      go_enter Try.func137, Try.ntmps137
      go_wp2_with (go_at_call 77; refine (HW.out _ _ _ _).mono ?_; rintro e w' ⟨rfl, rfl⟩)
      go_loop [4, 5] (fun ii jj => ∃ i : Nat, i ≤ a.accept.length ∧ ii = .int .i64 i ∧ (a.next.take i).all (rowOk a.accept.length) = true) (fun ii _ => a.accept.length - (intOf ii).toNat)
      case atStart => exact ⟨0, Nat.zero_le _, rfl, rfl⟩
      case round =>
        obtain ⟨i, hi, rfl, hall⟩ := hrel
        have HA := Lib.hid hall
        clear hall
        by_cases hlt : i < a.accept.length
        · have hlt' : i < a.next.length := by have := HG3.out; omega
          obtain ⟨u, hu⟩ : ∃ u, us[i]? = some u := ⟨_, List.getElem?_eq_getElem (by have := HU.out; omega)⟩
          obtain ⟨b, o, rfl, -, hb1, hc⟩ := hx2 i u hu
          have hxi : a.next[i]? = some a.next[i] := List.getElem?_eq_getElem hlt'
          have hvi := hrows i u _ hu hxi
          generalize a.next[i] = row at hvi hxi
          have c0 := hc 0 _ rfl
          simp only [Nat.mul_one, Nat.add_zero] at c0
          obtain ⟨A3, c3, rfl, hl3, hm3, hx3⟩ := hvi
          unfold maxLen at hm3
          have HX := Lib.hid hxi
          clear hc hx2 hu hxi hrows
          by_cases g9 : row.length = 9
          · have g9' : ((row.length : Int) != 9) = false := by simp; omega
            have HG9 := Lib.hid g9
            have hl9 : 9 ≤ row.length := by omega
            clear g9
            go_wp2_with fail
            go_loop [5] (fun jj => ∃ j : Nat, j ≤ 9 ∧ jj = .int .i64 j ∧ (row.take j).all (fun t => wi t (-1) ((a.accept.length : Int) - 1)) = true) (fun jj => 9 - (intOf jj).toNat)
            case atStart => exact ⟨0, Nat.zero_le _, rfl, rfl⟩
            case round =>
              obtain ⟨j, hj, rfl, hall2⟩ := hrel
              have HB := Lib.hid hall2
              clear hall2
              by_cases hlt2 : j < 9
              · have hlt3 : j < row.length := by omega
                have hxj : row[j]? = some row[j] := List.getElem?_eq_getElem hlt3
                obtain ⟨b2, o2, rfl, -, hb2, hc2⟩ := hx3 j _ hxj
                generalize row[j] = t at hc2 hxj
                have d0 := hc2 0 _ rfl
                simp only [Nat.mul_one, Nat.add_zero] at d0
                have HXJ := Lib.hid hxj
                clear hc2 hx3 hxj
                by_cases g4 : wi t (-1) ((a.accept.length : Int) - 1) = true
                · go_wp2_with (go_at_call 77; refine (HW.out _ _ _ _).mono ?_; rintro e w' ⟨rfl, rfl⟩)
                  go_round
                  case rel => exact ⟨j + 1, by omega, by go_num, all_take_succ HXJ.out HB.out g4⟩
                  case measure => simp [intOf]; omega
                · simp only [Bool.not_eq_true] at g4
                  have hfin : auFits a = false := by
                    rw [HR.out]
                    refine all_false_of HX.out ?_
                    rw [rowOk, all_false_of HXJ.out g4]
                    rfl
                  have HF := Lib.hid hfin
                  clear hfin
                  go_wp2_with (go_at_call 77; refine (HW.out _ _ _ _).mono ?_; rintro e w' ⟨rfl, rfl⟩)
                  go_ret
                  exact ⟨by rw [HF.out]; rfl, hb0⟩
              · obtain rfl : j = 9 := by omega
                have hok : rowOk a.accept.length row = true := by
                  have h3 := HB.out
                  rw [show 9 = row.length from HG9.out.symm, List.take_length] at h3
                  rw [rowOk, h3, HG9.out]
                  rfl
                have HO := Lib.hid hok
                clear hok hx3
                go_wp2_with fail
                go_round
                case rel => exact ⟨i + 1, by omega, by go_num, all_take_succ HX.out HA.out HO.out⟩
                case measure => simp [intOf]; omega
          · have g9' : ((row.length : Int) != 9) = true := by simp; omega
            have hfin : auFits a = false := by
              rw [HR.out]
              refine all_false_of HX.out ?_
              rw [rowOk]
              simp [g9]
            have HF := Lib.hid hfin
            clear hfin g9
            go_wp2_with fail
            go_ret
            exact ⟨by rw [HF.out]; rfl, hb0⟩
        · obtain rfl : i = a.accept.length := by omega
          have hfin : auFits a = true := by rw [HR.out]; have := HA.out; rw [← HG3.out, List.take_length] at this; rw [HG3.out] at this; exact this
          have HF := Lib.hid hfin
          clear hfin hx2 hrows
          go_wp2_with fail
          go_ret
          exact ⟨by rw [HF.out]; rfl, hb0⟩
    · have g3' : ((a.next.length : Int) != (a.accept.length : Int)) = true := by simp; omega
      have hr : auFits a = false := by simp [auFits, g3]
      have HR := Lib.hid hr
      clear hr g3
      go_enter Try.func137, Try.ntmps137
      go_wp2_with (go_at_call 77; refine (HW.out _ _ _ _).mono ?_; rintro e w' ⟨rfl, rfl⟩)
      go_ret
      exact ⟨by rw [HR.out]; rfl, hb0⟩
  · simp only [Bool.not_eq_true] at g2
    have hr : auFits a = false := by simp [auFits, g2]
    have HR := Lib.hid hr
    clear hr
    go_enter Try.func137, Try.ntmps137
    go_wp2_with (go_at_call 77; refine (HW.out _ _ _ _).mono ?_; rintro e w' ⟨rfl, rfl⟩)
    go_ret
    exact ⟨by rw [HR.out]; rfl, hb0⟩

theorem specValidAutomaton (v : Value) (a : Au) (w : World) (hv : AuV 0 w.heap.size w v a) :
    Calls Try.prog 91 #[v] w fun e w' => e = .returned (.bool (auOk a)) ∧ Below w.heap.size w w' := by
  have hv0 := hv
  obtain ⟨ac, nx, rfl, ⟨A1, c1, rfl, hl1, hm1, -⟩, -⟩ := hv
  unfold maxLen at hm1
  have hb0 : Below w.heap.size w (w.alloc (.cells #[.int .i64 a.start, .slice A1 a.accept.length c1, nx] 50)) := (Below.refl _ _).alloc (Nat.le_refl _) _
  have hok := auFits_ok a
  by_cases g : a.accept.length ≤ 12
  · have e1 : decide ((a.accept.length : Int) ≤ 12) = true := by simp; omega
    rw [decide_eq_true g, Bool.true_and] at hok
    have HO := Lib.hid hok
    clear hok
    go_enter Try.func91, Try.ntmps91
    go_wp2_with fail
    refine (l11Fits_any _ a _ (hv0.keep hb0)).mono ?_
    rintro e w1 ⟨rfl, hb1⟩
    go_wp2_with fail
    go_ret
    exact ⟨by rw [← HO.out]; rfl, below_trans hb0 hb1⟩
  · have e1 : decide ((a.accept.length : Int) ≤ 12) = false := by simp; omega
    rw [decide_eq_false g, Bool.false_and] at hok
    have HO := Lib.hid hok
    clear hok
    go_enter Try.func91, Try.ntmps91
    go_wp2_with fail
    go_ret
    exact ⟨by rw [← HO.out]; rfl, hb0⟩

end Go.Proofs.Ytmlfkledhnlkeaa

/- The reference's functions on graphs: validity, edges, steps. -/
namespace Go.Proofs.Ytmlfkledhnlkeaa
set_option linter.unusedVariables false
set_option linter.unusedSimpArgs false
open Go.ChangeShapes Go.WideShapes Go.ChangeAt Go.RowKit
attribute [local go_sem] ext_cell ext_frozen ext_lt ext_lt1 ext_lt2 ext_lt3 ltn2 ltn3 ltn13 lts1 lts2 lts3

set_option maxHeartbeats 1000000 in
theorem l3Edge_any (A : Option Addr) (n cc : Nat) (es : Value) (e : Ed) (w : World) (hn : n ≤ 9223372036854775807) :
    Calls Try.prog 148 #[.agg #[.slice A n cc, es], .agg #[.int .i64 e.1, .int .i64 e.2.1, .int .i64 e.2.2.1, .int .i64 e.2.2.2]] w fun en w' => en = .returned (.bool (edOk n e)) ∧ Below w.heap.size w w' := by
  obtain ⟨a, b, c, d⟩ := e
  have HW := Lib.hid l1In_any
  unfold edOk
  simp only
  have hb0 : Below w.heap.size w ((w.alloc (.cells #[.slice A n cc, es] 48)).alloc (.cells #[.int .i64 a, .int .i64 b, .int .i64 c, .int .i64 d] 144)) := ((Below.refl _ _).alloc (Nat.le_refl _) _).alloc (by simp) _
  cases g1 : wi a 1 99 with
  | false =>
    have HZ := Lib.hid g1
    go_enter Try.func148, Try.ntmps148
    go_wp2_with (go_at_call 77; refine (HW.out _ _ _ _).mono ?_; rintro e w' ⟨rfl, rfl⟩)
    go_ret
    exact ⟨rfl, hb0⟩
  | true =>
    cases g2 : wi b 0 ((n : Int) - 1) with
    | false =>
      go_enter Try.func148, Try.ntmps148
      go_wp2_with (go_at_call 77; refine (HW.out _ _ _ _).mono ?_; rintro e w' ⟨rfl, rfl⟩)
      go_ret
      exact ⟨rfl, hb0⟩
    | true =>
      cases g3 : wi c 0 ((n : Int) - 1) with
      | false =>
        go_enter Try.func148, Try.ntmps148
        go_wp2_with (go_at_call 77; refine (HW.out _ _ _ _).mono ?_; rintro e w' ⟨rfl, rfl⟩)
        go_ret
        exact ⟨rfl, hb0⟩
      | true =>
        go_enter Try.func148, Try.ntmps148
        go_wp2_with (go_at_call 77; refine (HW.out _ _ _ _).mono ?_; rintro e w' ⟨rfl, rfl⟩)
        go_ret
        exact ⟨rfl, hb0⟩

set_option maxHeartbeats 2000000 in
theorem specValidGraph (v : Value) (g : Gr) (w : World) (hv : GrV 0 w.heap.size w v g) :
    Calls Try.prog 115 #[v] w fun e w' => e = .returned (.bool (grOk g)) ∧ Below w.heap.size w w' := by
  obtain ⟨vs, es, rfl, ⟨A1, c1, rfl, hl1, hm1, hx1⟩, ⟨A2, c2, rfl, hl2, hm2, hx2⟩⟩ := hv
  unfold maxLen at hm1 hm2
  have hb0 : Below w.heap.size w (w.alloc (.cells #[.slice A1 g.vals.length c1, .slice A2 g.edges.length c2] 48)) := (Below.refl _ _).alloc (Nat.le_refl _) _
  have HW := Lib.hid l1In_any
  have HX1 := Lib.hid hx1
  have HX2 := Lib.hid hx2
  clear hx1 hx2
  go_enter Try.func115, Try.ntmps115
  go_wp2_with fail
  go_loop [3] (fun ii => ∃ i : Nat, i ≤ g.vals.length ∧ ii = .int .i64 i ∧ (g.vals.take i).all (fun v => wi v 0 2) = true) (fun ii => g.vals.length - (intOf ii).toNat)
  case atStart => exact ⟨0, Nat.zero_le _, rfl, rfl⟩
  case round =>
    obtain ⟨i, hi, rfl, hall⟩ := hrel
    have HA := Lib.hid hall
    clear hall
    by_cases hlt : i < g.vals.length
    · have hxi : g.vals[i]? = some g.vals[i] := List.getElem?_eq_getElem hlt
      obtain ⟨b, o, rfl, -, hb1, hc⟩ := HX1.out i _ hxi
      generalize g.vals[i] = x at hc hxi
      have c0 := hc 0 _ rfl
      simp only [Nat.mul_one, Nat.add_zero] at c0
      have HX := Lib.hid hxi
      clear hc hxi
      cases g4 : wi x 0 2 with
      | true =>
        have G4 := Lib.hid g4
        go_wp2_with (go_at_call 77; refine (HW.out _ _ _ _).mono ?_; rintro e w' ⟨rfl, rfl⟩)
        go_round
        case rel => exact ⟨i + 1, by omega, by go_num, all_take_succ HX.out HA.out G4.out⟩
        case measure => simp [intOf]; omega
      | false =>
        have hfin : grOk g = false := by
          rw [grOk, all_false_of HX.out g4]
          rfl
        have HF := Lib.hid hfin
        clear hfin
        go_wp2_with (go_at_call 77; refine (HW.out _ _ _ _).mono ?_; rintro e w' ⟨rfl, rfl⟩)
        go_ret
        exact ⟨by rw [HF.out]; rfl, hb0⟩
    · obtain rfl : i = g.vals.length := by omega
      have hallv : g.vals.all (fun v => wi v 0 2) = true := by have := HA.out; rwa [List.take_length] at this
      have HV := Lib.hid hallv
      clear hallv HA
      go_wp2_with fail
      go_loopw [4] (fun ii wr => ∃ (i : Nat) (u : World), i ≤ g.edges.length ∧ ii = .int .i64 i ∧ (List.range i).all (edAt g.vals.length g.edges) = true ∧ wr = ext (w.alloc (.cells #[.slice A1 g.vals.length c1, .slice A2 g.edges.length c2] 48)) u) (fun ii _ => g.edges.length - (intOf ii).toNat)
      case atStart => exact ⟨0, _, Nat.zero_le _, rfl, rfl, ext_self _⟩
      case round =>
        obtain ⟨i, u, hi, rfl, hall, rfl⟩ := hrel
        have HA := Lib.hid hall
        clear hall
        by_cases hlt : i < g.edges.length
        · have hxi : g.edges[i]? = some g.edges[i] := List.getElem?_eq_getElem hlt
          obtain ⟨b, o', rfl, -, hb1, hc⟩ := HX2.out i _ hxi
          generalize g.edges[i] = x at hc hxi
          have hb1' : b < w.heap.size + 1 := by omega
          have c0 := hc 0 _ rfl
          have c1' := hc 1 _ rfl
          have c2' := hc 2 _ rfl
          have c3 := hc 3 _ rfl
          simp only [Nat.add_zero] at c0
          have HX := Lib.hid hxi
          have hlen : g.vals.length ≤ 9223372036854775807 := by omega
          clear hc hxi
          have hgr : grOk g = ((List.range g.edges.length).all (edAt g.vals.length g.edges) && wi g.vals.length 1 5 && decide (g.edges.length ≤ 12)) := by
            rw [grOk, HV.out]; rfl
          have HGR := Lib.hid hgr
          clear hgr
          cases g4 : edOk g.vals.length x with
          | false =>
            have hfin : grOk g = false := by
              rw [HGR.out, range_all_false hlt (by rw [edAt, HX.out]; simp [g4])]
              rfl
            have HF := Lib.hid hfin
            clear hfin
            go_wp2_with fail
            refine wp_region_ext_lit (by kernel_rfl) (by kernel_rfl) ?_
            repeat (go_big_quiet_step ((go_at_call 148; exact Calls.ext_of (l3Edge_any A1 g.vals.length c1 _ x _ hlen))))
            refine wpQuiet_nil ?_
            intro _ hw'
            obtain ⟨u2, hw''⟩ := hw'
            subst hw''
            go_wp2_with fail
            go_ret
            exact ⟨by rw [HF.out]; rfl, below_trans hb0 (below_trans (ext_below _ _) (ext_below _ _))⟩
          | true =>
            have G4 := Lib.hid g4
            have hbx : ∀ u2, ∃ z, ext (ext (w.alloc (.cells #[.slice A1 g.vals.length c1, .slice (some ⟨b, o', none⟩) g.edges.length c2] 48)) u) u2 = ext (w.alloc (.cells #[.slice A1 g.vals.length c1, .slice (some ⟨b, o', none⟩) g.edges.length c2] 48)) z :=
              fun u2 => ext_of (below_trans (ext_below _ _) (ext_below _ _))
            by_cases hi0 : i = 0
            · subst hi0
              have hat : edAt g.vals.length g.edges 0 = true := by rw [edAt, HX.out]; simp [G4.out]
              have HAT := Lib.hid hat
              clear hat
              simp only [Nat.zero_mul, Nat.add_zero, Nat.zero_add] at c0 c1' c2' c3
              go_wp2_with fail
              refine wp_region_ext_lit (by kernel_rfl) (by kernel_rfl) ?_
              repeat (go_big_quiet_step ((go_at_call 148; exact Calls.ext_of (l3Edge_any A1 g.vals.length c1 _ x _ hlen))))
              refine wpQuiet_nil ?_
              intro _ hw'
              obtain ⟨u2, hw''⟩ := hw'
              subst hw''
              go_wp2_with fail
              go_roundw
              case rel =>
                obtain ⟨z, hz⟩ := hbx u2
                exact ⟨1, z, by omega, by go_num, range_all_succ HA.out HAT.out, hz⟩
              case measure => simp [intOf]; omega
            · have hi1 : 0 < i := by omega
              have hxj : g.edges[i - 1]? = some g.edges[i - 1] := List.getElem?_eq_getElem (by omega)
              obtain ⟨b9, o9, ho9, -, -, hcj⟩ := HX2.out (i - 1) _ hxj
              obtain ⟨rfl, rfl⟩ : b = b9 ∧ o' = o9 := by injection ho9 with h1; injection h1 with h1 h2; exact ⟨h1, h2⟩
              generalize g.edges[i - 1] = p at hcj hxj
              have hb1' : b < w.heap.size + 1 := by omega
              have p0 := hcj 0 _ rfl
              simp only [Nat.add_zero] at p0
              have HXJ := Lib.hid hxj
              have hi00 : ((i : Int) > 0) := by omega
              clear hcj hxj ho9
              by_cases hlt2 : p.1 < x.1
              · have hat : edAt g.vals.length g.edges i = true := by rw [edAt, HX.out]; simp [G4.out, HXJ.out, hlt2]
                have hge : decide (p.1 ≥ x.1) = false := by simp; omega
                have HAT := Lib.hid hat
                clear hat
                go_wp2_with fail
                have q1 : IntKind.i64.wrap ((i : Int) - 1) = (i : Int) - 1 := IntWalk.i64_in _ (by omega)
                have q2 : 0 ≤ (i : Int) - 1 := by omega
                have q3 : (i : Int) - 1 < (g.edges.length : Int) := by omega
                have q4 : ((i : Int) - 1).toNat = i - 1 := by omega
                refine wp_region_ext_lit (by kernel_rfl) (by kernel_rfl) ?_
                repeat (go_big_quiet_step ((go_at_call 148; exact Calls.ext_of (l3Edge_any A1 g.vals.length c1 _ x _ hlen))))
                refine wpQuiet_nil ?_
                intro _ hw'
                obtain ⟨u2, hw''⟩ := hw'
                subst hw''
                clear q1 q2 q3 q4
                go_wp2_with fail
                go_roundw
                case rel =>
                  obtain ⟨z, hz⟩ := hbx u2
                  exact ⟨i + 1, z, by omega, by go_num, range_all_succ HA.out HAT.out, hz⟩
                case measure => simp [intOf]; omega
              · have hfin : grOk g = false := by
                  rw [HGR.out, range_all_false hlt (by rw [edAt, HX.out]; simp [G4.out, HXJ.out, hi0]; omega)]
                  rfl
                have hge : decide (p.1 ≥ x.1) = true := by simp; omega
                have HF := Lib.hid hfin
                clear hfin
                go_wp2_with fail
                have q1 : IntKind.i64.wrap ((i : Int) - 1) = (i : Int) - 1 := IntWalk.i64_in _ (by omega)
                have q2 : 0 ≤ (i : Int) - 1 := by omega
                have q3 : (i : Int) - 1 < (g.edges.length : Int) := by omega
                have q4 : ((i : Int) - 1).toNat = i - 1 := by omega
                refine wp_region_ext_lit (by kernel_rfl) (by kernel_rfl) ?_
                repeat (go_big_quiet_step ((go_at_call 148; exact Calls.ext_of (l3Edge_any A1 g.vals.length c1 _ x _ hlen))))
                refine wpQuiet_nil ?_
                intro _ hw'
                obtain ⟨u2, hw''⟩ := hw'
                subst hw''
                clear q1 q2 q3 q4
                go_wp2_with fail
                go_ret
                exact ⟨by rw [HF.out]; rfl, below_trans hb0 (below_trans (ext_below _ _) (ext_below _ _))⟩
        · obtain rfl : i = g.edges.length := by omega
          have hgr : grOk g = (wi g.vals.length 1 5 && decide (g.edges.length ≤ 12)) := by
            rw [grOk, HV.out, HA.out]; rfl
          have HGR := Lib.hid hgr
          clear hgr HA HV
          cases g5 : wi g.vals.length 1 5 with
          | false =>
            rw [g5] at HGR
            go_wp2_with (go_at_call 77; refine (HW.out _ _ _ _).mono ?_; rintro e w' ⟨rfl, rfl⟩)
            go_ret
            exact ⟨by rw [HGR.out]; rfl, below_trans hb0 (ext_below _ _)⟩
          | true =>
            rw [g5] at HGR
            have HG5 := Lib.hid g5
            by_cases g6 : g.edges.length ≤ 12
            · have g6' : decide ((g.edges.length : Int) ≤ 12) = true := by simp; omega
              have hfin : grOk g = true := by rw [HGR.out]; simp [g6]
              have HF := Lib.hid hfin
              clear hfin HGR
              go_wp2_with (go_at_call 77; refine (HW.out _ _ _ _).mono ?_; rintro e w' ⟨rfl, rfl⟩)
              go_ret
              exact ⟨by rw [HF.out]; rfl, below_trans hb0 (ext_below _ _)⟩
            · have g6' : decide ((g.edges.length : Int) ≤ 12) = false := by simp; omega
              have hfin : grOk g = false := by rw [HGR.out]; simp [g6]
              have HF := Lib.hid hfin
              clear hfin HGR
              go_wp2_with (go_at_call 77; refine (HW.out _ _ _ _).mono ?_; rintro e w' ⟨rfl, rfl⟩)
              go_ret
              exact ⟨by rw [HF.out]; rfl, below_trans hb0 (ext_below _ _)⟩
end Go.Proofs.Ytmlfkledhnlkeaa

/- Step in the laws' helpers: equal lists are told equal; marking, looking, copying, measuring. -/
namespace Go.Proofs.Ytmlfkledhnlkeaa
set_option linter.unusedVariables false
set_option linter.unusedSimpArgs false
open Go.ChangeShapes Go.WideShapes Go.ChangeAt Go.RowKit
attribute [local go_sem] ext_cell ext_frozen ext_lt ext_lt1 ext_lt2 ext_lt3 ltn2 ltn3 ltn13 lts1 lts2 lts3

theorem eqStep_same (p : St) (w : World) :
    Calls Try.prog 136 #[.agg #[.int .i64 p.1, .bool p.2], .agg #[.int .i64 p.1, .bool p.2]] w fun e w' => e = .returned (.bool true) ∧ Below w.heap.size w w' := by
  obtain ⟨a0, a1⟩ := p
  go_enter Try.func136, Try.ntmps136
  go_wp2
  go_ret
  refine ⟨rfl, ?_⟩
  repeat (first | exact Below.refl _ _ | refine Below.alloc ?_ (by simp) _)
set_option maxHeartbeats 400000 in
theorem eqStepS_same (v1 v2 : Value) (xs : List St) (w : World) (hv1 : SlE w cSt 2 v1 xs) (hv2 : SlE w cSt 2 v2 xs) :
    Calls Try.prog 89 #[v1, v2] w fun e w' => e = .returned (.bool true) ∧ Below w.heap.size w w' := by
  obtain ⟨A1, c1, rfl, hl1, hm1, hx1⟩ := hv1
  obtain ⟨A2, c2, rfl, hl2, hm2, hx2⟩ := hv2
  unfold maxLen at hm1 hm2
  go_enter Try.func89, Try.ntmps89
  go_wp2
  go_loopw [5] (fun i wr => ∃ (k : Nat) (u : World), k ≤ xs.length ∧ i = .int .i64 k ∧ wr = ext w u) (fun i _ => xs.length - (intOf i).toNat)
  case atStart => exact ⟨0, w, Nat.zero_le _, rfl, ext_self w⟩
  case round =>
    obtain ⟨k, u, hk, rfl, rfl⟩ := hrel
    by_cases hlt : k < xs.length
    · obtain ⟨b1, o1, rfl, -, hb1, hc1⟩ := hx1 k xs[k] (List.getElem?_eq_getElem hlt)
      obtain ⟨b2, o2, rfl, -, hb2, hc2⟩ := hx2 k xs[k] (List.getElem?_eq_getElem hlt)
      generalize xs[k] = x at hc1 hc2
      have c10 := hc1 0 _ rfl
      have c11 := hc1 1 _ rfl
      have c20 := hc2 0 _ rfl
      have c21 := hc2 1 _ rfl
      simp only [Nat.add_zero] at c10 c20
      clear hc1 hc2 hx1 hx2
      go_wp2
      refine wp_region_ext_lit (by kernel_rfl) (by kernel_rfl) ?_
      repeat (go_big_quiet_step ((go_at_call 136; exact Calls.ext_of (eqStep_same x _))))
      refine wpQuiet_nil ?_
      intro _ hw'
      obtain ⟨u2, hw''⟩ := hw'
      subst hw''
      go_wp2
      go_roundw
      case rel =>
        obtain ⟨y, hy⟩ := ext_ext w u u2
        exact ⟨k + 1, y, by omega, by go_num, hy⟩
      case measure => simp [intOf]; omega
    · go_wp2
      go_ret
      exact ⟨rfl, ext_below _ _⟩
def mkStep (k : Int) (n : Nat) : List St := (List.range n).map fun (i : Nat) => (k + 2 * (i : Int), ((k + 2 * (i : Int) + 1) % 3 == 0))
theorem mkStep_len (k : Int) (n : Nat) : (mkStep k n).length = n := by simp [mkStep]
theorem mkStep_succ (k : Int) (i : Nat) : mkStep k (i + 1) = mkStep k i ++ [(k + 2 * (i : Int), ((k + 2 * (i : Int) + 1) % 3 == 0))] := by simp [mkStep, List.range_succ]
theorem mkStep_at (k : Int) {n i : Nat} (h : i < n) : (mkStep k n)[i]? = some (k + 2 * (i : Int), ((k + 2 * (i : Int) + 1) % 3 == 0)) := by simp [mkStep, h]
theorem flatStep_len (l : List St) : (l.flatMap cSt).length = l.length * 2 := by
  induction l with
  | nil => rfl
  | cons x l ih => simp only [List.flatMap_cons, List.length_append, cSt_len, ih, List.length_cons]; omega
theorem markStep_step (k : Int) (xs : List St) (i : Nat) (hi : i < xs.length) :
    ((((mkStep k i ++ xs.drop i).flatMap cSt).set (i * 2) (.int .i64 (k + 2 * (i : Int)))).set (i * 2 + 1) (.bool (((k + 2 * (i : Int) + 1) % 3 == 0)))) = (mkStep k (i + 1) ++ xs.drop (i + 1)).flatMap cSt := by
  rw [List.drop_eq_getElem_cons hi, mkStep_succ]
  have hl : ((mkStep k i).flatMap cSt).length = i * 2 := by rw [flatStep_len, mkStep_len]
  simp only [List.flatMap_append, List.flatMap_cons, List.flatMap_nil, List.append_nil, List.append_assoc]
  rw [List.set_append_right _ _ (by omega), List.set_append_right _ _ (by omega), hl]
  simp [cSt]
theorem toStep_any (p : St) (w : World) :
    Calls Try.prog 134 #[.agg #[.int .i64 p.1, .bool p.2]] w fun e w' => e = .returned (.agg #[.int .i64 p.1, .bool p.2]) ∧ Below w.heap.size w w' := by
  obtain ⟨a0, a1⟩ := p
  go_enter Try.func134, Try.ntmps134
  go_wp2
  refine bodyPost_ret (v := .agg #[.int .i64 a0, .bool a1]) (by simp [results, Try.results134, go_sem]) rfl ⟨rfl, ?_⟩
  repeat (first | exact Below.refl _ _ | refine Below.setCell ?_ (by simp <;> omega) _ | refine Below.alloc ?_ (by simp <;> omega) _)
theorem szStepS_any (A : Option Addr) (n c : Nat) (left : Int) (w : World) (hn : n ≤ maxLen) (h0 : 0 ≤ left) (h1 : left ≤ 1048576) :
    Calls Try.prog 85 #[.slice A n c, .int .i64 left] w fun e w' => e = .returned (.int .i64 (if left < n then -1 else left - n)) ∧ w' = w := by
  unfold maxLen at hn
  by_cases hlt : left < n
  · rw [if_pos hlt]
    go_enter Try.func85, Try.ntmps85
    go_wp2
    go_ret
    exact ⟨rfl, rfl⟩
  · rw [if_neg hlt]
    go_enter Try.func85, Try.ntmps85
    go_wp2
    go_ret
    exact ⟨rfl, rfl⟩
theorem elStep : ElemOk Try.prog 62 142 (.agg #[.int .i64 0, .bool false]) 2 16 := ⟨Try.underlying62, by kernel_rfl, rfl, by omega⟩
theorem toStep_step (xs : List St) (i : Nat) (x : St) (hx : xs[i]? = some x) :
    ((((xs.take i ++ List.replicate (xs.length - i) (0, false)).flatMap cSt).set (i * 2) (.int .i64 x.1)).set (i * 2 + 1) (.bool x.2)) = (xs.take (i + 1) ++ List.replicate (xs.length - (i + 1)) (0, false)).flatMap cSt := by
  have hi := (List.getElem?_eq_some_iff.1 hx).1
  rw [take_snoc hx, show xs.length - i = (xs.length - (i + 1)) + 1 by omega, List.replicate_succ]
  have hl : ((xs.take i).flatMap cSt).length = i * 2 := by rw [flatStep_len, List.length_take]; congr 1; omega
  simp only [List.flatMap_append, List.flatMap_cons, List.flatMap_nil, List.append_nil, List.append_assoc]
  rw [List.set_append_right _ _ (by omega), List.set_append_right _ _ (by omega), hl]
  simp [cSt]
set_option maxHeartbeats 1000000 in
theorem toStepS_any (v : Value) (xs : List St) (w : World) (hv : SlE w cSt 2 v xs) (hn : xs.length ≤ 1048576) :
    Calls Try.prog 87 #[v] w fun en w' => ∃ v', en = .returned v' ∧ Own w.heap.size w'.heap.size w' 142 cSt 2 v' xs ∧ Below w.heap.size w w' := by
  obtain ⟨A, c, rfl, hl, hm, hx⟩ := hv
  go_enter Try.func87, Try.ntmps87
  go_wp2_with (at_make; refine wpList_makeE (P := Try.prog) cSt (0, false) elStep rfl rfl rfl _ _ rfl w.heap.size xs.length _ (by rfl) (by rfl) rfl (by omega) (by unfold maxLen; omega) (Nat.le_refl _) ?_; intro w1 hrow1 hbel1)
  go_loopw [4] (fun ii wr => ∃ i : Nat, i ≤ xs.length ∧ ii = .int .i64 i ∧ wr.ownsRow w.heap.size 142 2 (.slice (some ⟨w.heap.size, 0, none⟩) xs.length xs.length) xs.length ((xs.take i ++ List.replicate (xs.length - i) (0, false)).flatMap cSt) ∧ Below w.heap.size w wr) (fun ii _ => xs.length - (intOf ii).toNat)
  case atStart => exact ⟨0, Nat.zero_le _, rfl, by simpa using hrow1, hbel1⟩
  case round =>
    obtain ⟨i, hi', rfl, hrow, hbel⟩ := hrel
    by_cases hlt : i < xs.length
    · have hxi : xs[i]? = some xs[i] := List.getElem?_eq_getElem hlt
      obtain ⟨b, o, rfl, -, hb1, hc⟩ := hx i _ hxi
      have hstep := toStep_step xs i _ hxi
      have hcur : (xs.take i ++ List.replicate (xs.length - i) (0, false))[i]? = some (0, false) := by
        rw [List.getElem?_append_right (by rw [List.length_take]; omega), List.getElem?_replicate, if_pos (by rw [List.length_take]; omega)]
      generalize xs[i] = x at hc hstep hxi
      have hs := hbel.size
      have c0 := (hbel.cell (p := ⟨b, o + i * 2 + 0, none⟩) hb1).trans (hc 0 _ rfl)
      have c1 := (hbel.cell (p := ⟨b, o + i * 2 + 1, none⟩) hb1).trans (hc 1 _ rfl)
      simp only [Nat.add_zero] at c0
      clear hc hx hxi hrow1 hbel1
      go_wp2_with fail
      refine (toStep_any x _).mono ?_; rintro e w2 ⟨rfl, hb2⟩
      have hrow2 := ownsRow_below hrow hb2 (Nat.le_refl _)
      have d0 := World.ownsRow.cellAt hrow2 (i * 2) (by omega)
      have f0 := World.ownsRow.frozenAt hrow2 (i * 2)
      have e0 := flat_at cSt_len hcur 0 _ rfl
      simp only [Nat.add_zero] at e0
      rw [e0] at d0
      clear e0
      have d1 := World.ownsRow.cellAt hrow2 (i * 2 + 1) (by omega)
      have f1 := World.ownsRow.frozenAt hrow2 (i * 2 + 1)
      have e1 := flat_at cSt_len hcur 1 _ rfl
      rw [e1] at d1
      clear e1
      have hst := (World.ownsRow.stored (World.ownsRow.stored hrow2 (i * 2) (.int .i64 x.1)).1 (i * 2 + 1) (.bool x.2)).1
      rw [hstep] at hst
      have HST := Lib.hid hst
      clear hst hstep hcur hrow hrow2
      go_wp2
      go_roundw
      case rel => exact ⟨i + 1, by omega, by go_num, HST.out, (((hbel.trans (hb2.mono hs)).setCell (Nat.le_refl _) _).setCell (Nat.le_refl _) _)⟩
      case measure => simp [intOf]; omega
    · obtain rfl : i = xs.length := by omega
      go_wp2
      go_ret
      exact ⟨_, rfl, Own.of_row hrow rfl (by simp), hbel⟩
end Go.Proofs.Ytmlfkledhnlkeaa

