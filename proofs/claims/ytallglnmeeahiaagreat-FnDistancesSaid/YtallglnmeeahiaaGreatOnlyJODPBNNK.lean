/- Parts of the proof, joined into one text: FromI, DistS, Pick, Reslice, SortI, AnsI, AnsT, HelpPair, ShortI, ShortS, Tab, AllA, TwoD. -/
import Derived.Test.YtallglnmeeahiaaGreatOnlyHBGHKMGI
import Derived.Test.YtallglnmeeahiaaGreatOnlyIKCEKKLI
import Derived.Test.YtallglnmeeahiaaGreatOnlyGCIPIEML
import Derived.Test.YtallglnmeeahiaaGreatOnlyDEGJKGJL
import Derived.Test.YtallglnmeeahiaaGreatOnlyBPPHFNHP
import Derived.Test.YtallglnmeeahiaaGreatOnlyDMHMNKMM
import Derived.Lib.Slices
import Derived.Test.YtallglnmeeahiaaGreatOnlyGKHBMKEF
import Derived.RegionTactic
import Derived.BigRegion
namespace Go.Proofs.YtallglnmeeahiaaGreat
set_option linter.unusedVariables false
set_option linter.unusedSimpArgs false
open Go.ChangeShapes Go.WideShapes Go.ChangeAt Go.RowKit
attribute [local go_sem] ext_cell ext_frozen ext_lt ext_lt1 ext_lt2 ext_lt3 ltn2 ltn3 ltn13 lts1 lts2 lts3
theorem lit_nat (w : World) (e : TypeId) (x : Nat) : SlE (w.alloc (.cells #[.int .i64 (x : Int)] e)) cN 1 (.slice (some ⟨w.heap.size, 0, none⟩) 1 1) [x] := by
  have h := Own.of_row (xs := [x]) (E := cN) (World.ownsRow_lit (base := 0) (e := e) (size := 1) w #[.int .i64 (x : Int)] 1 (Nat.zero_le _) (by decide) rfl) rfl rfl
  exact (h.sl cN_len).all (Nat.le_refl _)
set_option maxHeartbeats 4000000 in
set_option maxRecDepth 100000 in
theorem implDistancesFrom (vg va : Value) (g : Gr) (a : Au) (x : Int) (w : World) (hgv : GrV 0 w.heap.size w vg g) (hav : AuV 0 w.heap.size w va a) :
    Calls Tryz.prog 11 #[vg, va, .int .i64 x] w fun e w' => ∃ v', e = .returned v' ∧ Own w.heap.size w'.heap.size w' 3 cI 1 v' (distFrom g a x) ∧ Below w.heap.size w w' := by
  have hgv0 := hgv
  have hav0 := hav
  obtain ⟨A1, n1, c1, A2, n2, c2, rfl⟩ := hgv.shape
  obtain ⟨ac, nx, rfl, hac, hnx⟩ := hav
  obtain ⟨A3, c3, rfl, -, -, -⟩ := SlE.form hac
  obtain ⟨A4, n4, c4, rfl⟩ := hnx.shape
  have hb0 : Below w.heap.size w ((w.alloc (.cells #[.slice A1 n1 c1, .slice A2 n2 c2] 27)).alloc (.cells #[.int .i64 a.start, .slice A3 a.accept.length c3, .slice A4 n4 c4] 31)) := ((Below.refl _ _).alloc (Nat.le_refl _) _).alloc (by simp) _
  have hb1 := hb0.alloc hb0.size (.cells #[.int .i64 x] 3)
  have hst : SlE (((w.alloc (.cells #[.slice A1 n1 c1, .slice A2 n2 c2] 27)).alloc (.cells #[.int .i64 a.start, .slice A3 a.accept.length c3, .slice A4 n4 c4] 31)).alloc (.cells #[.int .i64 x] 3)) cI 1 (.slice (some ⟨w.heap.size + 1 + 1, 0, none⟩) 1 1) [x] := by
    have h := lit_sl ((w.alloc (.cells #[.slice A1 n1 c1, .slice A2 n2 c2] 27)).alloc (.cells #[.int .i64 a.start, .slice A3 a.accept.length c3, .slice A4 n4 c4] 31)) 3 [x] (by unfold maxLen; simp)
    simpa using h
  have hbo := bothOk_any _ _ _ g a [x] _ (hgv0.keep hb1) (hav0.keep hb1) hst
  have HBO := Lib.hid hbo
  have HGV := Lib.hid hgv0
  have HAV := Lib.hid hav0
  clear hgv hac hnx hgv0 hav0 hbo hst
  cases hk : ([x].all (fun s => wi s 0 ((g.vals.length : Int) - 1)) && (grOk g && auOk a)) with
  | false =>
    rw [hk] at HBO
    have hfin : distFrom g a x = [] := by unfold distFrom; rw [if_neg]; simpa using hk
    have HF := Lib.hid hfin
    clear hk hfin
    go_enter Tryz.func11, Tryz.ntmps11
    go_wp2_with fail
    refine HBO.out.mono ?_
    rintro e w1 ⟨rfl, hb2⟩
    go_wp2_with fail
    go_ret
    exact ⟨_, rfl, by rw [HF.out]; exact Own.nil _ _ _ _ _ _, below_trans hb1 hb2⟩
  | true =>
    rw [hk] at HBO
    simp only [List.all_cons, List.all_nil, Bool.and_true, Bool.and_eq_true, wi_iff] at hk
    obtain ⟨⟨hx0, hx1⟩, hgo, hao⟩ := hk
    have hgo2 := grOk_iff.1 hgo
    obtain ⟨x, rfl⟩ := Int.eq_ofNat_of_zero_le hx0
    have hxl : x < g.vals.length := by omega
    obtain ⟨N, hN⟩ : ∃ N, N = g.vals.length * a.accept.length := ⟨_, rfl⟩
    have hn5 := hgo2.n5
    have hn1 := hgo2.n1
    obtain ⟨⟨hm1, hm12⟩, ⟨hst0, hst1⟩, -, -⟩ := auOk_iff.1 hao
    have hN60 : N ≤ 60 := by rw [hN]; have := Nat.mul_le_mul hn5 hm12; omega
    have hN1 : 1 ≤ N := by rw [hN]; exact Nat.mul_pos hn1 hm1
    obtain ⟨s, hs⟩ : ∃ s : Nat, a.start = (s : Int) := ⟨a.start.toNat, by omega⟩
    obtain ⟨xn, hxn⟩ : ∃ xn, xn = x * a.accept.length := ⟨_, rfl⟩
    have hxn2 : xn + a.accept.length ≤ N := by rw [hxn, hN]; have := Nat.mul_le_mul_right a.accept.length (show x + 1 ≤ g.vals.length by omega); rw [Nat.succ_mul] at this; exact this
    obtain ⟨S0, hS0⟩ : ∃ S0, S0 = xn + s := ⟨_, rfl⟩
    have hS0N : S0 < N := by omega
    have m1' : (x : Int) * (a.accept.length : Int) = (xn : Int) := by rw [hxn, Int.natCast_mul]
    have m1 : IntKind.i64.wrap ((x : Int) * (a.accept.length : Int)) = (xn : Int) := by rw [m1']; exact IntWalk.i64_in _ (by omega)
    have m2' : (xn : Int) + a.start = (S0 : Int) := by omega
    have m2 : IntKind.i64.wrap ((xn : Int) + a.start) = (S0 : Int) := by rw [m2']; exact IntWalk.i64_in _ (by omega)
    have m3 : IntKind.i64.wrap (xn : Int) = (xn : Int) := IntWalk.i64_in _ (by omega)
    have m4 : IntKind.i64.wrap (S0 : Int) = (S0 : Int) := IntWalk.i64_in _ (by omega)
    have hfin : distFrom g a (x : Int) = spreadR N (nextI g a) [S0] := by
      rw [distFrom, if_pos (by simp only [Bool.and_eq_true, wi_iff]; exact ⟨by omega, hgo, hao⟩), Int.toNat_natCast, ← hxn, ← hN, hs, Int.toNat_natCast, ← hS0]
    have hnl : ∀ i, i < N → ∀ k ∈ nextI g a i, k < N := fun i _ k hk => by rw [hN]; exact nextV_lt hgo2 hao hk
    have hfl : ∀ i ∈ [S0], i < N := by intro i hi; rw [List.mem_singleton] at hi; omega
    have HN := Lib.hid hN
    have HNL := Lib.hid hnl
    have HFL := Lib.hid hfl
    have HGO := Lib.hid hgo2
    have HAO := Lib.hid hao
    have HF := Lib.hid hfin
    have M1 := Lib.hid m1
    have M1' := Lib.hid m1'
    have M2 := Lib.hid m2
    have M2' := Lib.hid m2'
    have M3 := Lib.hid m3
    have M4 := Lib.hid m4
    clear hN hnl hfl hgo hgo2 hao hfin hx0 hx1 hs hxn hS0 m1 m1' m2 m2' m3 m4 hst0 hst1
    go_enter Tryz.func11, Tryz.ntmps11
    go_wp2_with fail
    refine HBO.out.mono ?_
    rintro e w1 ⟨rfl, hb2⟩
    have hb3 := below_trans hb1 hb2
    have b0 := (((Blk.new w 27 #[.slice A1 n1 c1, .slice A2 n2 c2] w.heap.size rfl).alloc (.cells #[.int .i64 a.start, .slice A3 a.accept.length c3, .slice A4 n4 c4] 31)).alloc (.cells #[.int .i64 (x : Int)] 3)).keep hb2
    have b1 := ((Blk.new (w.alloc (.cells #[.slice A1 n1 c1, .slice A2 n2 c2] 27)) 31 #[.int .i64 a.start, .slice A3 a.accept.length c3, .slice A4 n4 c4] (w.heap.size + 1) (by simp)).alloc (.cells #[.int .i64 (x : Int)] 3)).keep hb2
    have x0 : w1.cell? ⟨w.heap.size, 0, none⟩ = some (.slice A1 n1 c1) := by exact b0.cell 0
    have x1 : w1.cell? ⟨w.heap.size, 1, none⟩ = some (.slice A2 n2 c2) := by exact b0.cell 1
    have y0 : w1.cell? ⟨w.heap.size + 1, 0, none⟩ = some (.int .i64 a.start) := by exact b1.cell 0
    have y1 : w1.cell? ⟨w.heap.size + 1, 1, none⟩ = some (.slice A3 a.accept.length c3) := by exact b1.cell 1
    have y2 : w1.cell? ⟨w.heap.size + 1, 2, none⟩ = some (.slice A4 n4 c4) := by exact b1.cell 2
    clear hb0 hb1 hb2 b0 b1 HBO
    go_wp2_with fail
    have m1 := M1.out
    have m1' := M1'.out
    have m2 := M2.out
    have m2' := M2'.out
    have m3 := M3.out
    have m4 := M4.out
    refine F_start 13 (fun w' => w'.cell? ⟨w.heap.size, 0, none⟩ = some (.slice A1 n1 c1) ∧ w'.cell? ⟨w.heap.size, 1, none⟩ = some (.slice A2 n2 c2) ∧ w'.cell? ⟨w.heap.size + 1, 0, none⟩ = some (.int .i64 a.start) ∧ w'.cell? ⟨w.heap.size + 1, 1, none⟩ = some (.slice A3 a.accept.length c3) ∧ w'.cell? ⟨w.heap.size + 1, 2, none⟩ = some (.slice A4 n4 c4)) (by kernel_rfl) (by exact ⟨x0, x1, y0, y1, y2⟩) (fun hS inv => ?_)
    refine F_take (i := 0) (v := ?_) rfl (by kernel_rfl) (by kernel_rfl) (by kernel_rfl) (fun _ _ _ h => h) inv (Or.inl ⟨by rfl, ?_⟩) (by assumption) (fun invn => ?_)
    rotate_left
    · (intro w hSw; (try dsimp only at hSw); go_simp; try with_reducible rfl)
    try simp only [List.getElem_toArray, List.getElem_cons_zero, List.getElem_cons_succ, Act.put, List.setIfInBounds_toArray, List.set_cons_zero, List.set_cons_succ]
    clear inv
    have inv := invn
    clear invn
    refine F_take (i := 1) (v := ?_) rfl (by kernel_rfl) (by kernel_rfl) (by kernel_rfl) (fun _ _ _ h => h) inv (Or.inl ⟨by rfl, ?_⟩) (by assumption) (fun invn => ?_)
    rotate_left
    · (intro w hSw; (try dsimp only at hSw); go_simp; try with_reducible rfl)
    try simp only [List.getElem_toArray, List.getElem_cons_zero, List.getElem_cons_succ, Act.put, List.setIfInBounds_toArray, List.set_cons_zero, List.set_cons_succ]
    clear inv
    have inv := invn
    clear invn
    refine F_take (i := 3) (v := ?_) rfl (by kernel_rfl) (by kernel_rfl) (by kernel_rfl) (fun _ _ _ h => h) inv (Or.inl ⟨by rfl, ?_⟩) (by assumption) (fun invn => ?_)
    rotate_left
    · (intro w hSw; (try dsimp only at hSw); go_simp; try with_reducible rfl)
    try simp only [List.getElem_toArray, List.getElem_cons_zero, List.getElem_cons_succ, Act.put, List.setIfInBounds_toArray, List.set_cons_zero, List.set_cons_succ]
    clear inv
    have inv := invn
    clear invn
    refine F_take (i := 4) (v := ?_) rfl (by kernel_rfl) (by kernel_rfl) (by kernel_rfl) (fun _ _ _ h => h) inv (Or.inl ⟨by rfl, ?_⟩) (by assumption) (fun invn => ?_)
    rotate_left
    · (intro w hSw; (try dsimp only at hSw); go_simp; try with_reducible rfl)
    try simp only [List.getElem_toArray, List.getElem_cons_zero, List.getElem_cons_succ, Act.put, List.setIfInBounds_toArray, List.set_cons_zero, List.set_cons_succ]
    clear inv
    have inv := invn
    clear invn
    refine F_take (i := 5) (v := ?_) rfl (by kernel_rfl) (by kernel_rfl) (by kernel_rfl) (fun _ _ _ h => h) inv (Or.inl ⟨by rfl, ?_⟩) (by assumption) (fun invn => ?_)
    rotate_left
    · (intro w hSw; (try dsimp only at hSw); go_simp; try with_reducible rfl)
    try simp only [List.getElem_toArray, List.getElem_cons_zero, List.getElem_cons_succ, Act.put, List.setIfInBounds_toArray, List.set_cons_zero, List.set_cons_succ]
    clear inv
    have inv := invn
    clear invn
    refine F_take (i := 6) (v := ?_) rfl (by kernel_rfl) (by kernel_rfl) (by kernel_rfl) (fun _ _ _ h => h) inv (Or.inl ⟨by rfl, ?_⟩) (by assumption) (fun invn => ?_)
    rotate_left
    · (intro w hSw; (try dsimp only at hSw); go_simp; try with_reducible rfl)
    try simp only [List.getElem_toArray, List.getElem_cons_zero, List.getElem_cons_succ, Act.put, List.setIfInBounds_toArray, List.set_cons_zero, List.set_cons_succ]
    clear inv
    have inv := invn
    clear invn
    refine F_take (i := 7) (v := ?_) rfl (by kernel_rfl) (by kernel_rfl) (by kernel_rfl) (fun _ _ _ h => h) inv (Or.inl ⟨by rfl, ?_⟩) (by assumption) (fun invn => ?_)
    rotate_left
    · (intro w hSw; (try dsimp only at hSw); go_simp; try with_reducible rfl)
    try simp only [List.getElem_toArray, List.getElem_cons_zero, List.getElem_cons_succ, Act.put, List.setIfInBounds_toArray, List.set_cons_zero, List.set_cons_succ]
    clear inv
    have inv := invn
    clear invn
    refine F_take (i := 8) (v := ?_) rfl (by kernel_rfl) (by kernel_rfl) (by kernel_rfl) (fun _ _ _ h => h) inv (Or.inl ⟨by rfl, ?_⟩) (by assumption) (fun invn => ?_)
    rotate_left
    · (intro w hSw; (try dsimp only at hSw); go_simp; try with_reducible rfl)
    try simp only [List.getElem_toArray, List.getElem_cons_zero, List.getElem_cons_succ, Act.put, List.setIfInBounds_toArray, List.set_cons_zero, List.set_cons_succ]
    clear inv
    have inv := invn
    clear invn
    refine F_take (i := 9) (v := ?_) rfl (by kernel_rfl) (by kernel_rfl) (by kernel_rfl) (fun _ _ _ h => h) inv (Or.inl ⟨by rfl, ?_⟩) (by assumption) (fun invn => ?_)
    rotate_left
    · (intro w hSw; (try dsimp only at hSw); go_simp; try with_reducible rfl)
    try simp only [List.getElem_toArray, List.getElem_cons_zero, List.getElem_cons_succ, Act.put, List.setIfInBounds_toArray, List.set_cons_zero, List.set_cons_succ]
    clear inv
    have inv := invn
    clear invn
    refine F_take (i := 10) (v := ?_) rfl (by kernel_rfl) (by kernel_rfl) (by kernel_rfl) (fun _ _ _ h => h) inv (Or.inl ⟨by rfl, ?_⟩) (by assumption) (fun invn => ?_)
    rotate_left
    · (intro w hSw; (try dsimp only at hSw); go_simp; try with_reducible rfl)
    try simp only [List.getElem_toArray, List.getElem_cons_zero, List.getElem_cons_succ, Act.put, List.setIfInBounds_toArray, List.set_cons_zero, List.set_cons_succ]
    clear inv
    have inv := invn
    clear invn
    refine F_two (i := 2) (j := 11) (by kernel_rfl) rfl rfl rfl rfl (by omega) inv (fun K hK => ?_) (fun K hK => ?_)
    all_goals (try simp only [List.getElem_toArray, List.getElem_cons_zero, List.getElem_cons_succ])
    · go_simp
      refine (nextVertices_any _ _ g a _ (GrV.keep (w' := w1.drew) HGV.out hb3.drew) (AuV.keep (w' := w1.drew) HAV.out hb3.drew) HGO.out HAO.out).mono ?_
      rintro e wA ⟨vA, rfl, hsA, hbA⟩
      rw [← HN.out] at hsA
      refine hK.out _ _ (kB5 hbA hS) (fun hSn invn => ?_)
      try simp only [List.getElem_toArray, List.getElem_cons_zero, List.getElem_cons_succ, Act.put, List.setIfInBounds_toArray, List.set_cons_zero, List.set_cons_succ]
      clear hK K inv hS
      have inv := invn
      have hS := hSn
      clear invn hSn
      refine F_one (i := 11) (by kernel_rfl) rfl rfl (by omega) inv (fun K hK => ?_)
      try simp only [List.getElem_toArray, List.getElem_cons_zero, List.getElem_cons_succ]
      go_simp
      refine hK.out _ _ (kA5 _ hS) (fun hSn invn => ?_)
      try simp only [List.getElem_toArray, List.getElem_cons_zero, List.getElem_cons_succ, Act.put, List.setIfInBounds_toArray, List.set_cons_zero, List.set_cons_succ]
      clear hK K inv hS
      have inv := invn
      have hS := hSn
      clear invn hSn
      refine F_one (i := 12) (by kernel_rfl) rfl rfl (by omega) inv (fun K hK => ?_)
      try simp only [List.getElem_toArray, List.getElem_cons_zero, List.getElem_cons_succ]
      go_simp
      refine (spread_any vA _ N (nextI g a) [S0] _ ((hsA.mono (Nat.zero_le _) (Nat.le_refl _)).keep ((Below.refl _ _).alloc (Nat.le_refl _) _)) (lit_nat wA _ S0) hN1 hN60 (by simp) HFL.out HNL.out).mono ?_
      rintro e wD ⟨vD, rfl, hoD, hbD⟩
      have hbF := below_trans hb3.drew (below_trans hbA (below_trans ((Below.refl wA.heap.size wA).alloc (Nat.le_refl _) _) hbD))
      have hsz := (below_trans hb3.drew (below_trans hbA ((Below.refl wA.heap.size wA).alloc (Nat.le_refl _) (.cells #[.int .i64 (S0 : Int)] 3)))).size
      have hoF := hoD.mono hsz (Nat.le_refl _)
      rw [← HF.out] at hoF
      have HOF := Lib.hid hoF
      obtain ⟨A5, n5', c5, rfl⟩ := hoD.shape
      clear hoF
      refine hK.out _ _ (kB5 hbD hS) (fun hSn invn => ?_)
      try simp only [List.getElem_toArray, List.getElem_cons_zero, List.getElem_cons_succ, Act.put, List.setIfInBounds_toArray, List.set_cons_zero, List.set_cons_succ]
      clear hK K inv hS
      have inv := invn
      have hS := hSn
      clear invn hSn
      refine F_last (i := 13) (by kernel_rfl) rfl rfl (by omega) (by kernel_rfl) (fun K hK => ?_)
      go_simp
      refine hK _ _ ?_
      clear hK K inv hS
      clear m1 m1' m2 m2' m3 m4
      go_wp2_with fail
      go_ret
      exact ⟨_, rfl, HOF.out, hbF⟩
    · go_simp
      have hsA0 := lit_nat w1.drew 3 S0
      have hba := (Below.refl w1.drew.heap.size w1.drew).alloc (Nat.le_refl _) (.cells #[.int .i64 (S0 : Int)] 3)
      have hbz := below_trans hb3.drew hba
      refine hK.out _ _ (kA5 _ hS) (fun hSn invn => ?_)
      try simp only [List.getElem_toArray, List.getElem_cons_zero, List.getElem_cons_succ, Act.put, List.setIfInBounds_toArray, List.set_cons_zero, List.set_cons_succ]
      clear hK K inv hS
      have inv := invn
      have hS := hSn
      clear invn hSn
      refine F_one (i := 2) (by kernel_rfl) rfl rfl (by omega) inv (fun K hK => ?_)
      try simp only [List.getElem_toArray, List.getElem_cons_zero, List.getElem_cons_succ]
      go_simp
      refine (nextVertices_any _ _ g a _ (HGV.out.keep hbz) (HAV.out.keep hbz) HGO.out HAO.out).mono ?_
      rintro e wA ⟨vA, rfl, hsA, hbA⟩
      rw [← HN.out] at hsA
      refine hK.out _ _ (kB5 hbA hS) (fun hSn invn => ?_)
      try simp only [List.getElem_toArray, List.getElem_cons_zero, List.getElem_cons_succ, Act.put, List.setIfInBounds_toArray, List.set_cons_zero, List.set_cons_succ]
      clear hK K inv hS
      have inv := invn
      have hS := hSn
      clear invn hSn
      refine F_one (i := 12) (by kernel_rfl) rfl rfl (by omega) inv (fun K hK => ?_)
      try simp only [List.getElem_toArray, List.getElem_cons_zero, List.getElem_cons_succ]
      go_simp
      refine (spread_any vA _ N (nextI g a) [S0] _ (hsA.mono (Nat.zero_le _) (Nat.le_refl _)) (SlE.keep hsA0 hbA) hN1 hN60 (by simp) HFL.out HNL.out).mono ?_
      rintro e wD ⟨vD, rfl, hoD, hbD⟩
      have hbF := below_trans (below_trans hbz hbA) hbD
      have hoF := hoD.mono (below_trans hbz hbA).size (Nat.le_refl _)
      rw [← HF.out] at hoF
      have HOF := Lib.hid hoF
      obtain ⟨A5, n5', c5, rfl⟩ := hoD.shape
      clear hoF
      refine hK.out _ _ (kB5 hbD hS) (fun hSn invn => ?_)
      try simp only [List.getElem_toArray, List.getElem_cons_zero, List.getElem_cons_succ, Act.put, List.setIfInBounds_toArray, List.set_cons_zero, List.set_cons_succ]
      clear hK K inv hS
      have inv := invn
      have hS := hSn
      clear invn hSn
      refine F_last (i := 13) (by kernel_rfl) rfl rfl (by omega) (by kernel_rfl) (fun K hK => ?_)
      go_simp
      refine hK _ _ ?_
      clear hK K inv hS
      clear m1 m1' m2 m2' m3 m4
      go_wp2_with fail
      go_ret
      exact ⟨_, rfl, HOF.out, hbF⟩
end Go.Proofs.YtallglnmeeahiaaGreat
namespace Go.Proofs.YtallglnmeeahiaaGreat
set_option linter.unusedVariables false
set_option linter.unusedSimpArgs false
open Go.ChangeShapes Go.WideShapes Go.ChangeAt Go.RowKit
attribute [local go_sem] ext_cell ext_frozen ext_lt ext_lt1 ext_lt2 ext_lt3 ltn2 ltn3 ltn13 lts1 lts2 lts3
theorem distFrom_le (g : Gr) (a : Au) (x : Int) : (distFrom g a x).length ≤ 60 := by
  cases h : (wi x 0 ((g.vals.length : Int) - 1) && (grOk g && auOk a)) with
  | false => rw [distFrom, h]; simp
  | true =>
    rw [distFrom_len h]
    simp only [Bool.and_eq_true] at h
    have hn5 := (grOk_iff.1 h.2.1).n5
    have hn12 := (auOk_iff.1 h.2.2).1.2
    exact Nat.mul_le_mul hn5 hn12
set_option maxHeartbeats 2000000 in
theorem specDistancesTo (vg va : Value) (g : Gr) (a : Au) (x : Int) (w : World) (hgv : GrV 0 w.heap.size w vg g) (hav : AuV 0 w.heap.size w va a) :
    Calls Tryz.prog 13 #[vg, va, .int .i64 x] w fun e w' => ∃ v', e = .returned v' ∧ Own w.heap.size w'.heap.size w' 3 cI 1 v' (distTo g a x) ∧ Below w.heap.size w w' := by
  obtain ⟨R, hR⟩ : ∃ R, R = distTo g a x := ⟨_, rfl⟩
  have hgv0 := hgv
  have hav0 := hav
  obtain ⟨A1, n1, c1, A2, n2, c2, rfl⟩ := hgv.shape
  obtain ⟨A3, n3, c3, A4, n4, c4, rfl⟩ := hav.shape
  have hb0 : Below w.heap.size w ((w.alloc (.cells #[.slice A1 n1 c1, .slice A2 n2 c2] 27)).alloc (.cells #[.int .i64 a.start, .slice A3 n3 c3, .slice A4 n4 c4] 31)) := ((Below.refl _ _).alloc (Nat.le_refl _) _).alloc (by simp) _
  have HGV := Lib.hid hgv0
  have HAV := Lib.hid hav0
  have HR := Lib.hid hR
  clear hgv hav hgv0 hav0 hR
  go_enter Tryz.func13, Tryz.ntmps13
  go_wp2_with fail
  obtain ⟨W0, hW0⟩ : ∃ W0, W0 = ((w.alloc (.cells #[.slice A1 n1 c1, .slice A2 n2 c2] 27)).alloc (.cells #[.int .i64 a.start, .slice A3 n3 c3, .slice A4 n4 c4] 31)) := ⟨_, rfl⟩
  rw [← hW0] at hb0 ⊢
  have x0 : W0.cell? ⟨w.heap.size, 0, none⟩ = some (.slice A1 n1 c1) := by rw [hW0]; simp
  have x1 : W0.cell? ⟨w.heap.size, 1, none⟩ = some (.slice A2 n2 c2) := by rw [hW0]; simp
  have y0 : W0.cell? ⟨w.heap.size + 1, 0, none⟩ = some (.int .i64 a.start) := by rw [hW0]; simp
  have y1 : W0.cell? ⟨w.heap.size + 1, 1, none⟩ = some (.slice A3 n3 c3) := by rw [hW0]; simp
  have y2 : W0.cell? ⟨w.heap.size + 1, 2, none⟩ = some (.slice A4 n4 c4) := by rw [hW0]; simp
  have hs0 : w.heap.size + 1 + 1 = W0.heap.size := by rw [hW0]; simp
  try rw [hs0]
  have l0 : w.heap.size + 1 < W0.heap.size := by omega
  have l00 : w.heap.size < W0.heap.size := by omega
  clear hW0 hs0
  have hgx := l14Good_any _ _ g a x 0 W0 (HGV.out.keep hb0) (HAV.out.keep hb0)
  rw [goodB1] at hgx
  have HGX := Lib.hid hgx
  clear hgx
  cases hk : (wi x 0 ((g.vals.length : Int) - 1) && (grOk g && auOk a)) with
  | false =>
    rw [hk] at HGX
    have hr0 : distTo g a x = [] := by rw [distTo, hk]; rfl
    have HR0 := Lib.hid hr0
    clear hk hr0
    refine HGX.out.mono ?_
    rintro e w1 ⟨rfl, hb1⟩
    have hb2 := below_trans hb0 hb1
    go_wp2_with fail
    go_ret
    exact ⟨_, rfl, by rw [HR0.out]; exact lit_nil hb2.size, hb2.alloc hb2.size _⟩
  | true =>
    rw [hk] at HGX
    simp only [Bool.and_eq_true, wi_iff] at hk
    obtain ⟨⟨hx0, hx1⟩, hgo, ha⟩ := hk
    obtain ⟨x, rfl⟩ := Int.eq_ofNat_of_zero_le hx0
    have hxl : x < g.vals.length := by omega
    have HLF := Lib.hid (fun (W : World) (hW : Below w.heap.size w W) => l14Back_any _ _ g a x W (HGV.out.keep hW) (HAV.out.keep hW) hgo ha hxl)
    clear hx0 hx1 hgo ha
    refine HGX.out.mono ?_
    rintro e w1 ⟨rfl, hb1⟩
    have hb2 := below_trans hb0 hb1
    have x0 := kcell hb1 x0
    have x1 := kcell hb1 x1
    have y0 := kcell hb1 y0
    have y1 := kcell hb1 y1
    have y2 := kcell hb1 y2
    go_wp2_with fail
    refine (HLF.out w1 hb2).mono ?_
    rintro e w2 ⟨v2, rfl, ho2, hb3⟩
    obtain ⟨A9, c9, rfl, -, -, -⟩ := ho2.form cI_len
    have HO := Lib.hid (ho2.mono hb2.size (Nat.le_refl _))
    clear ho2
    go_wp2_with fail
    go_ret
    exact ⟨_, rfl, HO.out, below_trans hb2 hb3⟩
end Go.Proofs.YtallglnmeeahiaaGreat
namespace Go.Proofs.YtallglnmeeahiaaGreat
set_option linter.unusedVariables false
set_option linter.unusedSimpArgs false
open Go.ChangeShapes Go.WideShapes Go.ChangeAt Go.RowKit
attribute [local go_sem] ext_cell ext_frozen ext_lt ext_lt1 ext_lt2 ext_lt3 ltn2 ltn3 ltn13 lts1 lts2 lts3
def pickL (p : Nat → Bool) (k : Nat) : List Int := ((List.range k).filter p).map fun (i : Nat) => (i : Int)
theorem pick_yes {p : Nat → Bool} {k : Nat} (h : p k = true) : pickL p (k + 1) = pickL p k ++ [(k : Int)] := by
  simp [pickL, List.range_succ, List.filter_append, h]
theorem pick_no {p : Nat → Bool} {k : Nat} (h : p k = false) : pickL p (k + 1) = pickL p k := by
  simp [pickL, List.range_succ, List.filter_append, h]
theorem pick_len (p : Nat → Bool) (k : Nat) : (pickL p k).length ≤ k := by
  unfold pickL
  rw [List.length_map]
  exact Nat.le_trans (List.length_filter_le _ _) (by simp)
end Go.Proofs.YtallglnmeeahiaaGreat
namespace Go.Proofs.YtallglnmeeahiaaGreat
set_option linter.unusedVariables false
set_option linter.unusedSimpArgs false
open Go.ChangeShapes Go.WideShapes Go.ChangeAt Go.RowKit
end Go.Proofs.YtallglnmeeahiaaGreat
namespace Go.Proofs.YtallglnmeeahiaaGreat
set_option linter.unusedVariables false
set_option linter.unusedSimpArgs false
open Go.ChangeShapes Go.WideShapes Go.ChangeAt Go.RowKit
attribute [local go_sem] ext_cell ext_frozen ext_lt ext_lt1 ext_lt2 ext_lt3 ltn2 ltn3 ltn13 lts1 lts2 lts3
end Go.Proofs.YtallglnmeeahiaaGreat
namespace Go.Proofs.YtallglnmeeahiaaGreat
set_option linter.unusedVariables false
set_option linter.unusedSimpArgs false
open Go.ChangeShapes Go.WideShapes Go.ChangeAt Go.RowKit
attribute [local go_sem] ext_cell ext_frozen ext_lt ext_lt1 ext_lt2 ext_lt3 ltn2 ltn3 ltn13 lts1 lts2 lts3
end Go.Proofs.YtallglnmeeahiaaGreat
namespace Go.Proofs.YtallglnmeeahiaaGreat
set_option linter.unusedVariables false
set_option linter.unusedSimpArgs false
open Go.ChangeShapes Go.WideShapes Go.ChangeAt Go.RowKit
attribute [local go_sem] ext_cell ext_frozen ext_lt ext_lt1 ext_lt2 ext_lt3 ltn2 ltn3 ltn13 lts1 lts2 lts3
end Go.Proofs.YtallglnmeeahiaaGreat
namespace Go.Proofs.YtallglnmeeahiaaGreat
set_option linter.unusedVariables false
set_option linter.unusedSimpArgs false
open Go.ChangeShapes Go.WideShapes Go.ChangeAt Go.RowKit
attribute [local go_sem] ext_cell ext_frozen ext_lt ext_lt1 ext_lt2 ext_lt3 ltn2 ltn3 ltn13 lts1 lts2 lts3
theorem elPair : ElemOk Tryz.prog 79 83 (.agg #[.int .i64 0, .int .i64 0]) 2 16 := ⟨Tryz.underlying79, by kernel_rfl, rfl, by omega⟩
end Go.Proofs.YtallglnmeeahiaaGreat
namespace Go.Proofs.YtallglnmeeahiaaGreat
set_option linter.unusedVariables false
set_option linter.unusedSimpArgs false
open Go.ChangeShapes Go.WideShapes Go.ChangeAt Go.RowKit
attribute [local go_sem] ext_cell ext_frozen ext_lt ext_lt1 ext_lt2 ext_lt3 ltn2 ltn3 ltn13 lts1 lts2 lts3
set_option maxHeartbeats 4000000 in
set_option maxRecDepth 100000 in
theorem implShortestLength (vg va : Value) (g : Gr) (a : Au) (x y : Int) (w : World) (hgv : GrV 0 w.heap.size w vg g) (hav : AuV 0 w.heap.size w va a) :
    Calls Tryz.prog 10 #[vg, va, .int .i64 x, .int .i64 y] w fun e w' => e = .returned (.int .i64 (shortLen g a x y)) ∧ Below w.heap.size w w' := by
  have hgv0 := hgv
  have hav0 := hav
  obtain ⟨A1, n1, c1, A2, n2, c2, rfl⟩ := hgv.shape
  obtain ⟨ac, nx, rfl, hac, hnx⟩ := hav
  obtain ⟨A3, c3, rfl, -, -, -⟩ := SlE.form hac
  obtain ⟨A4, n4, c4, rfl⟩ := hnx.shape
  have hb0 : Below w.heap.size w ((w.alloc (.cells #[.slice A1 n1 c1, .slice A2 n2 c2] 27)).alloc (.cells #[.int .i64 a.start, .slice A3 a.accept.length c3, .slice A4 n4 c4] 31)) := ((Below.refl _ _).alloc (Nat.le_refl _) _).alloc (by simp) _
  have hb1 := hb0.alloc hb0.size (.cells #[.int .i64 x, .int .i64 y] 3)
  have hst : SlE (((w.alloc (.cells #[.slice A1 n1 c1, .slice A2 n2 c2] 27)).alloc (.cells #[.int .i64 a.start, .slice A3 a.accept.length c3, .slice A4 n4 c4] 31)).alloc (.cells #[.int .i64 x, .int .i64 y] 3)) cI 1 (.slice (some ⟨w.heap.size + 1 + 1, 0, none⟩) 2 2) [x, y] := by
    have h := lit_sl ((w.alloc (.cells #[.slice A1 n1 c1, .slice A2 n2 c2] 27)).alloc (.cells #[.int .i64 a.start, .slice A3 a.accept.length c3, .slice A4 n4 c4] 31)) 3 [x, y] (by unfold maxLen; simp)
    simpa using h
  have hbo := bothOk_any _ _ _ g a [x, y] _ (hgv0.keep hb1) (hav0.keep hb1) hst
  have HBO := Lib.hid hbo
  have HGV := Lib.hid hgv0
  have HAV := Lib.hid hav0
  clear hgv hac hnx hgv0 hav0 hbo hst
  cases hk : ([x, y].all (fun s => wi s 0 ((g.vals.length : Int) - 1)) && (grOk g && auOk a)) with
  | false =>
    rw [hk] at HBO
    have hfin : shortLen g a x y = -1 := by unfold shortLen; rw [if_neg]; simpa [Bool.and_assoc] using hk
    have HF := Lib.hid hfin
    clear hk hfin
    go_enter Tryz.func10, Tryz.ntmps10
    go_wp2_with fail
    refine HBO.out.mono ?_
    rintro e w1 ⟨rfl, hb2⟩
    go_wp2_with fail
    go_ret
    exact ⟨by rw [HF.out]; rfl, below_trans hb1 hb2⟩
  | true =>
    rw [hk] at HBO
    simp only [List.all_cons, List.all_nil, Bool.and_true, Bool.and_eq_true, wi_iff] at hk
    obtain ⟨⟨⟨hx0, hx1⟩, hy0, hy1⟩, hgo, hao⟩ := hk
    have hdl := distTo_len (g := g) (a := a) (y := y) (by simp [wi_iff, hy0, hy1, hgo, hao])
    obtain ⟨x, rfl⟩ := Int.eq_ofNat_of_zero_le hx0
    have hst0 := (auOk_iff.1 hao).2.1
    have hm12 := (auOk_iff.1 hao).1.2
    have hn5 := (grOk_iff.1 hgo).n5
    obtain ⟨xn, hxn⟩ : ∃ xn, xn = x * a.accept.length := ⟨_, rfl⟩
    have hxn2 : xn + a.accept.length ≤ g.vals.length * a.accept.length := by rw [hxn]; have := Nat.mul_le_mul_right a.accept.length (show x + 1 ≤ g.vals.length by omega); rw [Nat.succ_mul] at this; exact this
    have hN60 : g.vals.length * a.accept.length ≤ 60 := by have := Nat.mul_le_mul hn5 hm12; omega
    rw [← hdl] at hxn2 hN60
    obtain ⟨ix, hix⟩ : ∃ ix : Nat, (ix : Int) = (xn : Int) + a.start := ⟨(xn + a.start.toNat), by omega⟩
    have hixl : ix < (distTo g a y).length := by omega
    have hfin : shortLen g a x y = (distTo g a y).getD ix 0 := by
      unfold shortLen
      rw [if_pos (by simp [wi_iff, hx0, hx1, hy0, hy1, hgo, hao]), Int.toNat_natCast, ← hxn]
      congr 1
      omega
    have hget := getD_of hixl
    have q1 : IntKind.i64.wrap ((x : Int) * (a.accept.length : Int)) = (xn : Int) := by rw [IntWalk.i64_in _ (by rw [← Int.natCast_mul, ← hxn]; omega), hxn, Int.natCast_mul]
    have q1' : (x : Int) * (a.accept.length : Int) = (xn : Int) := by rw [hxn, Int.natCast_mul]
    have q2 : IntKind.i64.wrap ((xn : Int) + a.start) = (ix : Int) := by rw [← hix]; exact IntWalk.i64_in _ (by omega)
    have q2' : (xn : Int) + a.start = (ix : Int) := hix.symm
    have q5 : IntKind.i64.wrap (xn : Int) = (xn : Int) := IntWalk.i64_in _ (by omega)
    have q6 : IntKind.i64.wrap (ix : Int) = (ix : Int) := IntWalk.i64_in _ (by omega)
    have hixi : (ix : Int) < ((distTo g a y).length : Int) := by omega
    have hix0 : (0 : Int) ≤ (ix : Int) := by omega
    have HF := Lib.hid hfin
    have HGET := Lib.hid hget
    have Q1 := Lib.hid q1
    have Q1' := Lib.hid q1'
    have Q2 := Lib.hid q2
    have Q2' := Lib.hid q2'
    have Q5 := Lib.hid q5
    have Q6 := Lib.hid q6
    clear hget hfin hxn hix hgo hao hdl hx0 hx1 hy0 hy1 hst0 q1 q1' q2 q2' q5 q6
    go_enter Tryz.func10, Tryz.ntmps10
    go_wp2_with fail
    refine HBO.out.mono ?_
    rintro e w1 ⟨rfl, hb2⟩
    have hb3 := below_trans hb1 hb2
    have b0 := (((Blk.new w 27 #[.slice A1 n1 c1, .slice A2 n2 c2] w.heap.size rfl).alloc (.cells #[.int .i64 a.start, .slice A3 a.accept.length c3, .slice A4 n4 c4] 31)).alloc (.cells #[.int .i64 (x : Int), .int .i64 y] 3)).keep hb2
    have b1 := ((Blk.new (w.alloc (.cells #[.slice A1 n1 c1, .slice A2 n2 c2] 27)) 31 #[.int .i64 a.start, .slice A3 a.accept.length c3, .slice A4 n4 c4] (w.heap.size + 1) (by simp)).alloc (.cells #[.int .i64 (x : Int), .int .i64 y] 3)).keep hb2
    have x0 : w1.cell? ⟨w.heap.size, 0, none⟩ = some (.slice A1 n1 c1) := b0.cell 0
    have x1 : w1.cell? ⟨w.heap.size, 1, none⟩ = some (.slice A2 n2 c2) := b0.cell 1
    have y0 : w1.cell? ⟨w.heap.size + 1, 0, none⟩ = some (.int .i64 a.start) := b1.cell 0
    have y1 : w1.cell? ⟨w.heap.size + 1, 1, none⟩ = some (.slice A3 a.accept.length c3) := b1.cell 1
    have y2 : w1.cell? ⟨w.heap.size + 1, 2, none⟩ = some (.slice A4 n4 c4) := b1.cell 2
    clear hb0 hb1 hb2 b0 b1 HBO
    go_wp2_with fail
    have q1 := Q1.out
    have q1' := Q1'.out
    have q2 := Q2.out
    have q2' := Q2'.out
    have q5 := Q5.out
    have q6 := Q6.out
    refine F_start 14 (fun w' => w'.cell? ⟨w.heap.size, 0, none⟩ = some (.slice A1 n1 c1) ∧ w'.cell? ⟨w.heap.size, 1, none⟩ = some (.slice A2 n2 c2) ∧ w'.cell? ⟨w.heap.size + 1, 0, none⟩ = some (.int .i64 a.start) ∧ w'.cell? ⟨w.heap.size + 1, 1, none⟩ = some (.slice A3 a.accept.length c3) ∧ w'.cell? ⟨w.heap.size + 1, 2, none⟩ = some (.slice A4 n4 c4)) (by kernel_rfl) (by exact ⟨x0, x1, y0, y1, y2⟩) (fun hS inv => ?_)
    refine F_take (i := 0) (v := ?_) rfl (by kernel_rfl) (by kernel_rfl) (by kernel_rfl) (fun _ _ _ h => h) inv (Or.inl ⟨by rfl, ?_⟩) (by assumption) (fun invn => ?_)
    rotate_left
    · (intro w hSw; (try dsimp only at hSw); go_simp; try with_reducible rfl)
    try simp only [List.getElem_toArray, List.getElem_cons_zero, List.getElem_cons_succ, Act.put, List.setIfInBounds_toArray, List.set_cons_zero, List.set_cons_succ]
    clear inv
    have inv := invn
    clear invn
    refine F_take (i := 1) (v := ?_) rfl (by kernel_rfl) (by kernel_rfl) (by kernel_rfl) (fun _ _ _ h => h) inv (Or.inl ⟨by rfl, ?_⟩) (by assumption) (fun invn => ?_)
    rotate_left
    · (intro w hSw; (try dsimp only at hSw); go_simp; try with_reducible rfl)
    try simp only [List.getElem_toArray, List.getElem_cons_zero, List.getElem_cons_succ, Act.put, List.setIfInBounds_toArray, List.set_cons_zero, List.set_cons_succ]
    clear inv
    have inv := invn
    clear invn
    refine F_take (i := 2) (v := ?_) rfl (by kernel_rfl) (by kernel_rfl) (by kernel_rfl) (fun _ _ _ h => h) inv (Or.inl ⟨by rfl, ?_⟩) (by assumption) (fun invn => ?_)
    rotate_left
    · (intro w hSw; (try dsimp only at hSw); go_simp; try with_reducible rfl)
    try simp only [List.getElem_toArray, List.getElem_cons_zero, List.getElem_cons_succ, Act.put, List.setIfInBounds_toArray, List.set_cons_zero, List.set_cons_succ]
    clear inv
    have inv := invn
    clear invn
    refine F_take (i := 4) (v := ?_) rfl (by kernel_rfl) (by kernel_rfl) (by kernel_rfl) (fun _ _ _ h => h) inv (Or.inl ⟨by rfl, ?_⟩) (by assumption) (fun invn => ?_)
    rotate_left
    · (intro w hSw; (try dsimp only at hSw); go_simp; try with_reducible rfl)
    try simp only [List.getElem_toArray, List.getElem_cons_zero, List.getElem_cons_succ, Act.put, List.setIfInBounds_toArray, List.set_cons_zero, List.set_cons_succ]
    clear inv
    have inv := invn
    clear invn
    refine F_take (i := 5) (v := ?_) rfl (by kernel_rfl) (by kernel_rfl) (by kernel_rfl) (fun _ _ _ h => h) inv (Or.inl ⟨by rfl, ?_⟩) (by assumption) (fun invn => ?_)
    rotate_left
    · (intro w hSw; (try dsimp only at hSw); go_simp; try with_reducible rfl)
    try simp only [List.getElem_toArray, List.getElem_cons_zero, List.getElem_cons_succ, Act.put, List.setIfInBounds_toArray, List.set_cons_zero, List.set_cons_succ]
    clear inv
    have inv := invn
    clear invn
    refine F_take (i := 6) (v := ?_) rfl (by kernel_rfl) (by kernel_rfl) (by kernel_rfl) (fun _ _ _ h => h) inv (Or.inl ⟨by rfl, ?_⟩) (by assumption) (fun invn => ?_)
    rotate_left
    · (intro w hSw; (try dsimp only at hSw); go_simp; try with_reducible rfl)
    try simp only [List.getElem_toArray, List.getElem_cons_zero, List.getElem_cons_succ, Act.put, List.setIfInBounds_toArray, List.set_cons_zero, List.set_cons_succ]
    clear inv
    have inv := invn
    clear invn
    refine F_take (i := 7) (v := ?_) rfl (by kernel_rfl) (by kernel_rfl) (by kernel_rfl) (fun _ _ _ h => h) inv (Or.inl ⟨by rfl, ?_⟩) (by assumption) (fun invn => ?_)
    rotate_left
    · (intro w hSw; (try dsimp only at hSw); go_simp; try with_reducible rfl)
    try simp only [List.getElem_toArray, List.getElem_cons_zero, List.getElem_cons_succ, Act.put, List.setIfInBounds_toArray, List.set_cons_zero, List.set_cons_succ]
    clear inv
    have inv := invn
    clear invn
    refine F_take (i := 8) (v := ?_) rfl (by kernel_rfl) (by kernel_rfl) (by kernel_rfl) (fun _ _ _ h => h) inv (Or.inl ⟨by rfl, ?_⟩) (by assumption) (fun invn => ?_)
    rotate_left
    · (intro w hSw; (try dsimp only at hSw); go_simp; try with_reducible rfl)
    try simp only [List.getElem_toArray, List.getElem_cons_zero, List.getElem_cons_succ, Act.put, List.setIfInBounds_toArray, List.set_cons_zero, List.set_cons_succ]
    clear inv
    have inv := invn
    clear invn
    refine F_take (i := 9) (v := ?_) rfl (by kernel_rfl) (by kernel_rfl) (by kernel_rfl) (fun _ _ _ h => h) inv (Or.inl ⟨by rfl, ?_⟩) (by assumption) (fun invn => ?_)
    rotate_left
    · (intro w hSw; (try dsimp only at hSw); go_simp; try with_reducible rfl)
    try simp only [List.getElem_toArray, List.getElem_cons_zero, List.getElem_cons_succ, Act.put, List.setIfInBounds_toArray, List.set_cons_zero, List.set_cons_succ]
    clear inv
    have inv := invn
    clear invn
    refine F_take (i := 10) (v := ?_) rfl (by kernel_rfl) (by kernel_rfl) (by kernel_rfl) (fun _ _ _ h => h) inv (Or.inl ⟨by rfl, ?_⟩) (by assumption) (fun invn => ?_)
    rotate_left
    · (intro w hSw; (try dsimp only at hSw); go_simp; try with_reducible rfl)
    try simp only [List.getElem_toArray, List.getElem_cons_zero, List.getElem_cons_succ, Act.put, List.setIfInBounds_toArray, List.set_cons_zero, List.set_cons_succ]
    clear inv
    have inv := invn
    clear invn
    refine F_take (i := 11) (v := ?_) rfl (by kernel_rfl) (by kernel_rfl) (by kernel_rfl) (fun _ _ _ h => h) inv (Or.inl ⟨by rfl, ?_⟩) (by assumption) (fun invn => ?_)
    rotate_left
    · (intro w hSw; (try dsimp only at hSw); go_simp; try with_reducible rfl)
    try simp only [List.getElem_toArray, List.getElem_cons_zero, List.getElem_cons_succ, Act.put, List.setIfInBounds_toArray, List.set_cons_zero, List.set_cons_succ]
    clear inv
    have inv := invn
    clear invn
    refine F_one (i := 3) (by kernel_rfl) rfl rfl (by omega) inv (fun K hK => ?_)
    try simp only [List.getElem_toArray, List.getElem_cons_zero, List.getElem_cons_succ]
    go_simp
    refine (implDistancesTo _ _ g a y _ (GrV.keep (w' := w1.drew) HGV.out hb3.drew) (AuV.keep (w' := w1.drew) HAV.out hb3.drew)).mono ?_
    rintro e wD ⟨vD, rfl, hoD, hbD⟩
    obtain ⟨A5, c5, rfl, hl5, hm5, hC5⟩ := hoD.form cI_len
    obtain ⟨b5, o5, rfl, hb5, d5⟩ := hC5.int HGET.out
    refine hK.out _ _ (kB5 hbD hS) (fun hSn invn => ?_)
    try simp only [List.getElem_toArray, List.getElem_cons_zero, List.getElem_cons_succ, Act.put, List.setIfInBounds_toArray, List.set_cons_zero, List.set_cons_succ]
    clear hK K inv hS
    have inv := invn
    have hS := hSn
    clear invn hSn
    refine F_take (i := 12) (v := ?_) rfl (by kernel_rfl) (by kernel_rfl) (by kernel_rfl) (fun _ _ _ h => h) inv (Or.inl ⟨by rfl, ?_⟩) (by assumption) (fun invn => ?_)
    rotate_left
    · (intro w hSw; (try dsimp only at hSw); go_simp; try with_reducible rfl)
    try simp only [List.getElem_toArray, List.getElem_cons_zero, List.getElem_cons_succ, Act.put, List.setIfInBounds_toArray, List.set_cons_zero, List.set_cons_succ]
    clear inv
    have inv := invn
    clear invn
    refine F_one (i := 13) (by kernel_rfl) rfl rfl (by omega) inv (fun K hK => ?_)
    try simp only [List.getElem_toArray, List.getElem_cons_zero, List.getElem_cons_succ]
    go_simp
    refine hK.out _ _ (hS) (fun hSn invn => ?_)
    try simp only [List.getElem_toArray, List.getElem_cons_zero, List.getElem_cons_succ, Act.put, List.setIfInBounds_toArray, List.set_cons_zero, List.set_cons_succ]
    clear hK K inv hS
    have inv := invn
    have hS := hSn
    clear invn hSn
    refine F_last (i := 14) (by kernel_rfl) rfl rfl (by omega) (by kernel_rfl) (fun K hK => ?_)
    go_simp
    refine hK _ _ ?_
    clear hK K inv hS
    clear q1 q1' q2 q2' q5 q6
    go_wp2_with fail
    go_ret
    exact ⟨by rw [HF.out]; simp [List.getElem?_eq_getElem hixl], below_trans hb3.drew hbD⟩
end Go.Proofs.YtallglnmeeahiaaGreat
namespace Go.Proofs.YtallglnmeeahiaaGreat
set_option linter.unusedVariables false
set_option linter.unusedSimpArgs false
open Go.ChangeShapes Go.WideShapes Go.ChangeAt Go.RowKit
attribute [local go_sem] ext_cell ext_frozen ext_lt ext_lt1 ext_lt2 ext_lt3 ltn2 ltn3 ltn13 lts1 lts2 lts3
theorem goodB0 (g : Gr) (a : Au) (x : Int) : goodB g a x 0 = (grOk g && (auOk a && wi x 0 ((g.vals.length : Int) - 1))) := by
  unfold goodB
  cases h : auOk a with
  | false => simp
  | true =>
    have h1 := (auOk_iff.1 h).1.1
    have h2 : wi 0 0 ((a.accept.length : Int) - 1) = true := wi_iff.2 (by omega)
    rw [h2]
    simp
set_option maxHeartbeats 4000000 in
set_option maxRecDepth 100000 in
theorem specShortestLength (vg va : Value) (g : Gr) (a : Au) (x y : Int) (w : World) (hgv : GrV 0 w.heap.size w vg g) (hav : AuV 0 w.heap.size w va a) :
    Calls Tryz.prog 33 #[vg, va, .int .i64 x, .int .i64 y] w fun e w' => e = .returned (.int .i64 (shortLen g a x y)) ∧ Below w.heap.size w w' := by
  have hgv0 := hgv
  have hav0 := hav
  obtain ⟨A1, n1, c1, A2, n2, c2, rfl⟩ := hgv.shape
  obtain ⟨ac, nx, rfl, hac, hnx⟩ := hav
  obtain ⟨A3, c3, rfl, -, -, -⟩ := SlE.form hac
  obtain ⟨A4, n4, c4, rfl⟩ := hnx.shape
  have hb0 : Below w.heap.size w ((w.alloc (.cells #[.slice A1 n1 c1, .slice A2 n2 c2] 27)).alloc (.cells #[.int .i64 a.start, .slice A3 a.accept.length c3, .slice A4 n4 c4] 31)) := ((Below.refl _ _).alloc (Nat.le_refl _) _).alloc (by simp) _
  have HGV := Lib.hid hgv0
  have HAV := Lib.hid hav0
  clear hgv hac hnx hgv0 hav0
  go_enter Tryz.func33, Tryz.ntmps33
  go_wp2_with fail
  obtain ⟨W0, hW0⟩ : ∃ W0, W0 = ((w.alloc (.cells #[.slice A1 n1 c1, .slice A2 n2 c2] 27)).alloc (.cells #[.int .i64 a.start, .slice A3 a.accept.length c3, .slice A4 n4 c4] 31)) := ⟨_, rfl⟩
  rw [← hW0] at hb0 ⊢
  have x0 : W0.cell? ⟨w.heap.size, 0, none⟩ = some (.slice A1 n1 c1) := by rw [hW0]; simp
  have x1 : W0.cell? ⟨w.heap.size, 1, none⟩ = some (.slice A2 n2 c2) := by rw [hW0]; simp
  have y0 : W0.cell? ⟨w.heap.size + 1, 0, none⟩ = some (.int .i64 a.start) := by rw [hW0]; simp
  have y1 : W0.cell? ⟨w.heap.size + 1, 1, none⟩ = some (.slice A3 a.accept.length c3) := by rw [hW0]; simp
  have y2 : W0.cell? ⟨w.heap.size + 1, 2, none⟩ = some (.slice A4 n4 c4) := by rw [hW0]; simp
  have hs0 : w.heap.size + 1 + 1 = W0.heap.size := by rw [hW0]; simp
  try rw [hs0]
  have l0 : w.heap.size + 1 < W0.heap.size := by omega
  have l00 : w.heap.size < W0.heap.size := by omega
  clear hW0 hs0
  have hgx := l14Good_any _ _ g a x 0 W0 (HGV.out.keep hb0) (HAV.out.keep hb0)
  have HGX := Lib.hid hgx
  clear hgx
  cases hk : goodB g a x 0 with
  | false =>
    rw [hk] at HGX
    have hfin : shortLen g a x y = -1 := by
      unfold shortLen
      rw [if_neg]
      intro h
      rw [goodB0] at hk
      simp only [Bool.and_eq_true] at h
      simp [h] at hk
    have HF := Lib.hid hfin
    clear hk hfin
    refine HGX.out.mono ?_
    rintro e w1 ⟨rfl, hb1⟩
    go_wp2_with fail
    go_ret
    exact ⟨by rw [HF.out]; rfl, below_trans hb0 hb1⟩
  | true =>
    rw [hk] at HGX
    have HK := Lib.hid hk
    clear hk
    refine HGX.out.mono ?_
    rintro e w1 ⟨rfl, hb1⟩
    have hb2 := below_trans hb0 hb1
    have x0 := kcell hb1 x0
    have x1 := kcell hb1 x1
    have y0 := kcell hb1 y0
    have y1 := kcell hb1 y1
    have y2 := kcell hb1 y2
    have l0 := Nat.lt_of_lt_of_le l0 hb1.size
    have l00 := Nat.lt_of_lt_of_le l00 hb1.size
    have hgy := l14Good_any _ _ g a y 0 w1 (HGV.out.keep hb2) (HAV.out.keep hb2)
    have HGY := Lib.hid hgy
    clear hgy
    cases hk : goodB g a y 0 with
    | false =>
      rw [hk] at HGY
      have hfin : shortLen g a x y = -1 := by
        unfold shortLen
        rw [if_neg]
        intro h
        rw [goodB0] at hk
        simp only [Bool.and_eq_true] at h
        simp [h] at hk
      have HF := Lib.hid hfin
      clear hk hfin
      go_wp2_with fail
      refine HGY.out.mono ?_
      rintro e w3 ⟨rfl, hb3⟩
      go_wp2_with fail
      go_ret
      exact ⟨by rw [HF.out]; rfl, below_trans hb2 hb3⟩
    | true =>
      rw [hk] at HGY
      rw [goodB0] at hk
      have hk2 := HK.out
      rw [goodB0] at hk2
      simp only [Bool.and_eq_true, wi_iff] at hk hk2
      obtain ⟨hgo, hao, hy0, hy1⟩ := hk
      obtain ⟨-, -, hx0, hx1⟩ := hk2
      have hdl := distTo_len (g := g) (a := a) (y := y) (by simp [wi_iff, hy0, hy1, hgo, hao])
      obtain ⟨x, rfl⟩ := Int.eq_ofNat_of_zero_le hx0
      obtain ⟨y, rfl⟩ := Int.eq_ofNat_of_zero_le hy0
      have hst0 := (auOk_iff.1 hao).2.1
      have hm12 := (auOk_iff.1 hao).1.2
      have hn5 := (grOk_iff.1 hgo).n5
      obtain ⟨xn, hxn⟩ : ∃ xn, xn = x * a.accept.length := ⟨_, rfl⟩
      have hxn2 : xn + a.accept.length ≤ g.vals.length * a.accept.length := by rw [hxn]; have := Nat.mul_le_mul_right a.accept.length (show x + 1 ≤ g.vals.length by omega); rw [Nat.succ_mul] at this; exact this
      have hN60 : g.vals.length * a.accept.length ≤ 60 := by have := Nat.mul_le_mul hn5 hm12; omega
      rw [← hdl] at hxn2 hN60
      obtain ⟨ix, hix⟩ : ∃ ix : Nat, (ix : Int) = (xn : Int) + a.start := ⟨(xn + a.start.toNat), by omega⟩
      have hixl : ix < (distTo g a (y : Int)).length := by omega
      have hfin : shortLen g a (x : Int) (y : Int) = (distTo g a (y : Int)).getD ix 0 := by
        unfold shortLen
        rw [if_pos (by simp [wi_iff, hx0, hx1, hy0, hy1, hgo, hao]), Int.toNat_natCast, ← hxn]
        congr 1
        omega
      have hget := getD_of hixl
      have q1' : (x : Int) * (a.accept.length : Int) = (xn : Int) := by rw [hxn, Int.natCast_mul]
      have q1 : IntKind.i64.wrap ((x : Int) * (a.accept.length : Int)) = (xn : Int) := by rw [q1']; exact IntWalk.i64_in _ (by omega)
      have q2 : IntKind.i64.wrap ((xn : Int) + a.start) = (ix : Int) := by rw [← hix]; exact IntWalk.i64_in _ (by omega)
      have q2' : (xn : Int) + a.start = (ix : Int) := hix.symm
      have q5 : IntKind.i64.wrap (xn : Int) = (xn : Int) := IntWalk.i64_in _ (by omega)
      have q6 : IntKind.i64.wrap (ix : Int) = (ix : Int) := IntWalk.i64_in _ (by omega)
      have hixi : (ix : Int) < ((distTo g a (y : Int)).length : Int) := by omega
      have hix0 : (0 : Int) ≤ (ix : Int) := by omega
      have hyl : y < g.vals.length := by omega
      have HF := Lib.hid hfin
      have HGET := Lib.hid hget
      have Q1 := Lib.hid q1
      have Q1' := Lib.hid q1'
      have Q2 := Lib.hid q2
      have Q2' := Lib.hid q2'
      have Q5 := Lib.hid q5
      have Q6 := Lib.hid q6
      have HGO := Lib.hid hgo
      have HAO := Lib.hid hao
      clear hget hfin hxn hix hgo hao hdl hx0 hx1 hy0 hy1 hst0 q1 q1' q2 q2' q5 q6
      go_wp2_with fail
      refine HGY.out.mono ?_
      rintro e w3 ⟨rfl, hb3⟩
      have hb4 := below_trans hb2 hb3
      have x0 := kcell hb3 x0
      have x1 := kcell hb3 x1
      have y0 := kcell hb3 y0
      have y1 := kcell hb3 y1
      have y2 := kcell hb3 y2
      clear hb0 hb1 hb2 hb3 HGY HGX HK
      go_wp2_with fail
      have q1 := Q1.out
      have q1' := Q1'.out
      have q2 := Q2.out
      have q2' := Q2'.out
      have q5 := Q5.out
      have q6 := Q6.out
      refine F_start 14 (fun w' => w'.cell? ⟨w.heap.size, 0, none⟩ = some (.slice A1 n1 c1) ∧ w'.cell? ⟨w.heap.size, 1, none⟩ = some (.slice A2 n2 c2) ∧ w'.cell? ⟨w.heap.size + 1, 0, none⟩ = some (.int .i64 a.start) ∧ w'.cell? ⟨w.heap.size + 1, 1, none⟩ = some (.slice A3 a.accept.length c3) ∧ w'.cell? ⟨w.heap.size + 1, 2, none⟩ = some (.slice A4 n4 c4)) (by kernel_rfl) (by exact ⟨x0, x1, y0, y1, y2⟩) (fun hS inv => ?_)
      refine F_take (i := 0) (v := ?_) rfl (by kernel_rfl) (by kernel_rfl) (by kernel_rfl) (fun _ _ _ h => h) inv (Or.inl ⟨by rfl, ?_⟩) (by assumption) (fun invn => ?_)
      rotate_left
      · (intro w hSw; (try dsimp only at hSw); go_simp; try with_reducible rfl)
      try simp only [List.getElem_toArray, List.getElem_cons_zero, List.getElem_cons_succ, Act.put, List.setIfInBounds_toArray, List.set_cons_zero, List.set_cons_succ]
      clear inv
      have inv := invn
      clear invn
      refine F_take (i := 1) (v := ?_) rfl (by kernel_rfl) (by kernel_rfl) (by kernel_rfl) (fun _ _ _ h => h) inv (Or.inl ⟨by rfl, ?_⟩) (by assumption) (fun invn => ?_)
      rotate_left
      · (intro w hSw; (try dsimp only at hSw); go_simp; try with_reducible rfl)
      try simp only [List.getElem_toArray, List.getElem_cons_zero, List.getElem_cons_succ, Act.put, List.setIfInBounds_toArray, List.set_cons_zero, List.set_cons_succ]
      clear inv
      have inv := invn
      clear invn
      refine F_take (i := 2) (v := ?_) rfl (by kernel_rfl) (by kernel_rfl) (by kernel_rfl) (fun _ _ _ h => h) inv (Or.inl ⟨by rfl, ?_⟩) (by assumption) (fun invn => ?_)
      rotate_left
      · (intro w hSw; (try dsimp only at hSw); go_simp; try with_reducible rfl)
      try simp only [List.getElem_toArray, List.getElem_cons_zero, List.getElem_cons_succ, Act.put, List.setIfInBounds_toArray, List.set_cons_zero, List.set_cons_succ]
      clear inv
      have inv := invn
      clear invn
      refine F_take (i := 4) (v := ?_) rfl (by kernel_rfl) (by kernel_rfl) (by kernel_rfl) (fun _ _ _ h => h) inv (Or.inl ⟨by rfl, ?_⟩) (by assumption) (fun invn => ?_)
      rotate_left
      · (intro w hSw; (try dsimp only at hSw); go_simp; try with_reducible rfl)
      try simp only [List.getElem_toArray, List.getElem_cons_zero, List.getElem_cons_succ, Act.put, List.setIfInBounds_toArray, List.set_cons_zero, List.set_cons_succ]
      clear inv
      have inv := invn
      clear invn
      refine F_take (i := 5) (v := ?_) rfl (by kernel_rfl) (by kernel_rfl) (by kernel_rfl) (fun _ _ _ h => h) inv (Or.inl ⟨by rfl, ?_⟩) (by assumption) (fun invn => ?_)
      rotate_left
      · (intro w hSw; (try dsimp only at hSw); go_simp; try with_reducible rfl)
      try simp only [List.getElem_toArray, List.getElem_cons_zero, List.getElem_cons_succ, Act.put, List.setIfInBounds_toArray, List.set_cons_zero, List.set_cons_succ]
      clear inv
      have inv := invn
      clear invn
      refine F_take (i := 6) (v := ?_) rfl (by kernel_rfl) (by kernel_rfl) (by kernel_rfl) (fun _ _ _ h => h) inv (Or.inl ⟨by rfl, ?_⟩) (by assumption) (fun invn => ?_)
      rotate_left
      · (intro w hSw; (try dsimp only at hSw); go_simp; try with_reducible rfl)
      try simp only [List.getElem_toArray, List.getElem_cons_zero, List.getElem_cons_succ, Act.put, List.setIfInBounds_toArray, List.set_cons_zero, List.set_cons_succ]
      clear inv
      have inv := invn
      clear invn
      refine F_take (i := 7) (v := ?_) rfl (by kernel_rfl) (by kernel_rfl) (by kernel_rfl) (fun _ _ _ h => h) inv (Or.inl ⟨by rfl, ?_⟩) (by assumption) (fun invn => ?_)
      rotate_left
      · (intro w hSw; (try dsimp only at hSw); go_simp; try with_reducible rfl)
      try simp only [List.getElem_toArray, List.getElem_cons_zero, List.getElem_cons_succ, Act.put, List.setIfInBounds_toArray, List.set_cons_zero, List.set_cons_succ]
      clear inv
      have inv := invn
      clear invn
      refine F_take (i := 8) (v := ?_) rfl (by kernel_rfl) (by kernel_rfl) (by kernel_rfl) (fun _ _ _ h => h) inv (Or.inl ⟨by rfl, ?_⟩) (by assumption) (fun invn => ?_)
      rotate_left
      · (intro w hSw; (try dsimp only at hSw); go_simp; try with_reducible rfl)
      try simp only [List.getElem_toArray, List.getElem_cons_zero, List.getElem_cons_succ, Act.put, List.setIfInBounds_toArray, List.set_cons_zero, List.set_cons_succ]
      clear inv
      have inv := invn
      clear invn
      refine F_take (i := 9) (v := ?_) rfl (by kernel_rfl) (by kernel_rfl) (by kernel_rfl) (fun _ _ _ h => h) inv (Or.inl ⟨by rfl, ?_⟩) (by assumption) (fun invn => ?_)
      rotate_left
      · (intro w hSw; (try dsimp only at hSw); go_simp; try with_reducible rfl)
      try simp only [List.getElem_toArray, List.getElem_cons_zero, List.getElem_cons_succ, Act.put, List.setIfInBounds_toArray, List.set_cons_zero, List.set_cons_succ]
      clear inv
      have inv := invn
      clear invn
      refine F_take (i := 10) (v := ?_) rfl (by kernel_rfl) (by kernel_rfl) (by kernel_rfl) (fun _ _ _ h => h) inv (Or.inl ⟨by rfl, ?_⟩) (by assumption) (fun invn => ?_)
      rotate_left
      · (intro w hSw; (try dsimp only at hSw); go_simp; try with_reducible rfl)
      try simp only [List.getElem_toArray, List.getElem_cons_zero, List.getElem_cons_succ, Act.put, List.setIfInBounds_toArray, List.set_cons_zero, List.set_cons_succ]
      clear inv
      have inv := invn
      clear invn
      refine F_take (i := 11) (v := ?_) rfl (by kernel_rfl) (by kernel_rfl) (by kernel_rfl) (fun _ _ _ h => h) inv (Or.inl ⟨by rfl, ?_⟩) (by assumption) (fun invn => ?_)
      rotate_left
      · (intro w hSw; (try dsimp only at hSw); go_simp; try with_reducible rfl)
      try simp only [List.getElem_toArray, List.getElem_cons_zero, List.getElem_cons_succ, Act.put, List.setIfInBounds_toArray, List.set_cons_zero, List.set_cons_succ]
      clear inv
      have inv := invn
      clear invn
      refine F_one (i := 3) (by kernel_rfl) rfl rfl (by omega) inv (fun K hK => ?_)
      try simp only [List.getElem_toArray, List.getElem_cons_zero, List.getElem_cons_succ]
      go_simp
      refine (l14Back_any _ _ g a y _ (GrV.keep (w' := w3.drew) HGV.out hb4.drew) (AuV.keep (w' := w3.drew) HAV.out hb4.drew) HGO.out HAO.out hyl).mono ?_
      rintro e wD ⟨vD, rfl, hoD, hbD⟩
      obtain ⟨A5, c5, rfl, hl5, hm5, hC5⟩ := hoD.form cI_len
      obtain ⟨b5, o5, rfl, hb5, d5⟩ := hC5.int HGET.out
      refine hK.out _ _ (kB5 hbD hS) (fun hSn invn => ?_)
      try simp only [List.getElem_toArray, List.getElem_cons_zero, List.getElem_cons_succ, Act.put, List.setIfInBounds_toArray, List.set_cons_zero, List.set_cons_succ]
      clear hK K inv hS
      have inv := invn
      have hS := hSn
      clear invn hSn
      refine F_take (i := 12) (v := ?_) rfl (by kernel_rfl) (by kernel_rfl) (by kernel_rfl) (fun _ _ _ h => h) inv (Or.inl ⟨by rfl, ?_⟩) (by assumption) (fun invn => ?_)
      rotate_left
      · (intro w hSw; (try dsimp only at hSw); go_simp; try with_reducible rfl)
      try simp only [List.getElem_toArray, List.getElem_cons_zero, List.getElem_cons_succ, Act.put, List.setIfInBounds_toArray, List.set_cons_zero, List.set_cons_succ]
      clear inv
      have inv := invn
      clear invn
      refine F_one (i := 13) (by kernel_rfl) rfl rfl (by omega) inv (fun K hK => ?_)
      try simp only [List.getElem_toArray, List.getElem_cons_zero, List.getElem_cons_succ]
      go_simp
      refine hK.out _ _ (hS) (fun hSn invn => ?_)
      try simp only [List.getElem_toArray, List.getElem_cons_zero, List.getElem_cons_succ, Act.put, List.setIfInBounds_toArray, List.set_cons_zero, List.set_cons_succ]
      clear hK K inv hS
      have inv := invn
      have hS := hSn
      clear invn hSn
      refine F_last (i := 14) (by kernel_rfl) rfl rfl (by omega) (by kernel_rfl) (fun K hK => ?_)
      go_simp
      refine hK _ _ ?_
      clear hK K inv hS
      clear q1 q1' q2 q2' q5 q6
      go_wp2_with fail
      go_ret
      exact ⟨by rw [HF.out]; simp [List.getElem?_eq_getElem hixl], below_trans hb4.drew hbD⟩
end Go.Proofs.YtallglnmeeahiaaGreat
namespace Go.Proofs.YtallglnmeeahiaaGreat
set_option linter.unusedVariables false
set_option linter.unusedSimpArgs false
open Go.ChangeShapes Go.WideShapes Go.ChangeAt Go.RowKit
attribute [local go_sem] ext_cell ext_frozen ext_lt ext_lt1 ext_lt2 ext_lt3 ltn2 ltn3 ltn13 lts1 lts2 lts3
def tabRow (g : Gr) (a : Au) (x k : Nat) : List Int := (List.range k).map fun (y : Nat) => shortLen g a (x : Int) (y : Int)
def tabTo (g : Gr) (a : Au) (k : Nat) : List (List Int) := (List.range k).map fun (x : Nat) => tabRow g a x g.vals.length
def tabL (g : Gr) (a : Au) : List (List Int) := if (grOk g && auOk a) = true then tabTo g a g.vals.length else []
theorem tabRow_len (g : Gr) (a : Au) (x k : Nat) : (tabRow g a x k).length = k := by simp [tabRow]
theorem tabRow_snoc (g : Gr) (a : Au) (x k : Nat) : tabRow g a x (k + 1) = tabRow g a x k ++ [shortLen g a (x : Int) (k : Int)] := by simp [tabRow, List.range_succ]
theorem tabTo_len (g : Gr) (a : Au) (k : Nat) : (tabTo g a k).length = k := by simp [tabTo]
theorem tabTo_snoc (g : Gr) (a : Au) (k : Nat) : tabTo g a (k + 1) = tabTo g a k ++ [tabRow g a k g.vals.length] := by simp [tabTo, List.range_succ]
theorem goodB00 (g : Gr) (a : Au) : goodB g a 0 0 = (grOk g && auOk a) := by
  rw [goodB0]
  cases hg : grOk g with
  | false => simp
  | true =>
    have h1 := (grOk_iff.1 hg).n1
    have h2 : wi 0 0 ((g.vals.length : Int) - 1) = true := wi_iff.2 (by omega)
    rw [h2]
    cases auOk a <;> simp
set_option maxHeartbeats 4000000 in
set_option maxRecDepth 100000 in
theorem implDistanceTable (vg va : Value) (g : Gr) (a : Au) (w : World) (hgv : GrV 0 w.heap.size w vg g) (hav : AuV 0 w.heap.size w va a) :
    Calls Tryz.prog 14 #[vg, va] w fun e w' => ∃ v' us, e = .returned v' ∧ NS w.heap.size w' 24 3 cI 1 v' us (tabL g a) ∧ Below w.heap.size w w' := by
  have hgv0 := hgv
  have hav0 := hav
  obtain ⟨A1, c1, A2, c2, rfl, hl1, hm1, hl2, hm2, -, -⟩ := hgv.form
  obtain ⟨A3, n3, c3, A4, n4, c4, rfl⟩ := hav.shape
  have hb0 : Below w.heap.size w ((w.alloc (.cells #[.slice A1 g.vals.length c1, .slice A2 g.edges.length c2] 27)).alloc (.cells #[.int .i64 a.start, .slice A3 n3 c3, .slice A4 n4 c4] 31)) := ((Below.refl _ _).alloc (Nat.le_refl _) _).alloc (by simp) _
  have HGV := Lib.hid hgv0
  have HAV := Lib.hid hav0
  obtain ⟨T, hT⟩ : ∃ T, T = tabL g a := ⟨_, rfl⟩
  rw [← hT]
  clear hgv hav hgv0 hav0
  go_enter Tryz.func14, Tryz.ntmps14
  go_wp2_with fail
  obtain ⟨W0, hW0⟩ : ∃ W0, W0 = ((w.alloc (.cells #[.slice A1 g.vals.length c1, .slice A2 g.edges.length c2] 27)).alloc (.cells #[.int .i64 a.start, .slice A3 n3 c3, .slice A4 n4 c4] 31)) := ⟨_, rfl⟩
  rw [← hW0] at hb0 ⊢
  have x0 : W0.cell? ⟨w.heap.size, 0, none⟩ = some (.slice A1 g.vals.length c1) := by rw [hW0]; simp
  have x1 : W0.cell? ⟨w.heap.size, 1, none⟩ = some (.slice A2 g.edges.length c2) := by rw [hW0]; simp
  have y0 : W0.cell? ⟨w.heap.size + 1, 0, none⟩ = some (.int .i64 a.start) := by rw [hW0]; simp
  have y1 : W0.cell? ⟨w.heap.size + 1, 1, none⟩ = some (.slice A3 n3 c3) := by rw [hW0]; simp
  have y2 : W0.cell? ⟨w.heap.size + 1, 2, none⟩ = some (.slice A4 n4 c4) := by rw [hW0]; simp
  have hs0 : w.heap.size + 1 + 1 = W0.heap.size := by rw [hW0]; simp
  try rw [hs0]
  have l0 : w.heap.size + 1 < W0.heap.size := by omega
  have l00 : w.heap.size < W0.heap.size := by omega
  clear hW0 hs0
  have hbo := bothOk_any _ _ (.slice none 0 0) g a [] W0 (HGV.out.keep hb0) (HAV.out.keep hb0) (SlI.nil _ _ _ _ _)
  rw [List.all_nil, Bool.true_and] at hbo
  have HBO := Lib.hid hbo
  clear hbo
  cases hk : (grOk g && auOk a) with
  | false =>
    rw [hk] at HBO
    have hr0 : T = [] := by rw [hT, tabL, hk]; rfl
    subst hr0
    clear hk hT
    refine HBO.out.mono ?_
    rintro e w1 ⟨rfl, hb1⟩
    go_wp2_with fail
    go_ret
    exact ⟨_, [], rfl, NS.start (World.ownsRow_nil _ _ _ _), below_trans hb0 hb1⟩
  | true =>
    rw [hk] at HBO
    have hT2 : T = tabTo g a g.vals.length := by rw [hT, tabL, hk]; rfl
    have hn5 := (grOk_iff.1 (Bool.and_eq_true .. ▸ hk).1).n5
    have hn1 := (grOk_iff.1 (Bool.and_eq_true .. ▸ hk).1).n1
    have HT := Lib.hid hT2
    clear hk hT hT2
    refine HBO.out.mono ?_
    rintro e w1 ⟨rfl, hb1⟩
    obtain ⟨W1, rfl⟩ : ∃ W1 : World, W1 = W0 := ⟨_, rfl⟩
    have x0 := kcell hb1 x0
    have x1 := kcell hb1 x1
    have y0 := kcell hb1 y0
    have y1 := kcell hb1 y1
    have y2 := kcell hb1 y2
    have hb0 := below_trans hb0 hb1
    have l0 := Nat.lt_of_lt_of_le l0 hb1.size
    have l00 := Nat.lt_of_lt_of_le l00 hb1.size
    obtain ⟨W0, rfl⟩ : ∃ W0 : World, W0 = w1 := ⟨_, rfl⟩
    clear hb1
    go_wp2_with fail
    go_loopw [5, 17] (fun oo ii wr => ∃ (i : Nat) (us : List Value), i ≤ g.vals.length ∧ ii = .int .i64 (i : Int) ∧ NS W0.heap.size wr 24 3 cI 1 oo us (tabTo g a i) ∧ Below W0.heap.size W0 wr) (fun _ ii _ => g.vals.length - (intOf ii).toNat)
    case atStart => exact ⟨0, [], Nat.zero_le _, rfl, NS.start (World.ownsRow_lit W0 #[] 0 (Nat.le_refl _) (by decide) rfl), (Below.refl _ _).alloc (Nat.le_refl _) _⟩
    case round =>
      obtain ⟨i, us, hi, rfl, hns, hbel⟩ := hrel
      have HNS := Lib.hid hns
      have x0 := (hbel.cell (p := ⟨w.heap.size, 0, none⟩) (by simp only; omega)).trans x0
      have x1 := (hbel.cell (p := ⟨w.heap.size, 1, none⟩) (by simp only; omega)).trans x1
      have y0 := (hbel.cell (p := ⟨w.heap.size + 1, 0, none⟩) (by simp only; omega)).trans y0
      have y1 := (hbel.cell (p := ⟨w.heap.size + 1, 1, none⟩) (by simp only; omega)).trans y1
      have y2 := (hbel.cell (p := ⟨w.heap.size + 1, 2, none⟩) (by simp only; omega)).trans y2
      have hsz := hbel.size
      have l0 := Nat.lt_of_lt_of_le l0 hsz
      have l00 := Nat.lt_of_lt_of_le l00 hsz
      have hbw := hb0.trans (hbel.mono (show w.heap.size ≤ W0.heap.size by omega))
      have HBW := Lib.hid hbw
      clear hns hbw
      by_cases hlt : i < g.vals.length
      · have hii : (i : Int) < (g.vals.length : Int) := by omega
        have HTS := Lib.hid (tabTo_snoc g a i)
        have hus := HNS.out.len
        have htl := tabTo_len g a i
        obtain ⟨w5, rfl⟩ : ∃ w5 : World, w5 = wr := ⟨_, rfl⟩
        have hul : us.length ≤ 5 := by omega
        have HUS := Lib.hid (show us.length = i by omega)
        clear hus htl
        generalize tabTo g a i = TL at *
        go_wp2_with fail
        go_loopw [7, 24] (fun rr jj wr => ∃ j : Nat, j ≤ g.vals.length ∧ jj = .int .i64 (j : Int) ∧ wr.ownsRow w5.heap.size 3 1 rr (tabRow g a i j).length ((tabRow g a i j).flatMap cI) ∧ Below w5.heap.size w5 wr) (fun _ jj _ => g.vals.length - (intOf jj).toNat)
        case atStart => exact ⟨0, Nat.zero_le _, rfl, World.ownsRow_lit w5 #[] 0 (Nat.le_refl _) (by decide) rfl, (Below.refl _ _).alloc (Nat.le_refl _) _⟩
        case round =>
          obtain ⟨j, hj, rfl, hrow, hbel2⟩ := hrel
          have HROW := Lib.hid hrow
          have x0 := kcell hbel2 x0
          have x1 := kcell hbel2 x1
          have y0 := kcell hbel2 y0
          have y1 := kcell hbel2 y1
          have y2 := kcell hbel2 y2
          have hsz2 := hbel2.size
          have l0 := Nat.lt_of_lt_of_le l0 hsz2
          have l00 := Nat.lt_of_lt_of_le l00 hsz2
          have hrl := tabRow_len g a i j
          have HBW2 := Lib.hid (below_trans HBW.out hbel2)
          clear hrow
          by_cases hlj : j < g.vals.length
          · have hjj : (j : Int) < (g.vals.length : Int) := by omega
            have HRS := Lib.hid (tabRow_snoc g a i j)
            have hrl2 : (tabRow g a i j).length ≤ 5 := by omega
            have HSH := Lib.hid (fun (W : World) (hW : Below w.heap.size w W) => implShortestLength _ _ g a (i : Int) (j : Int) W (HGV.out.keep hW) (HAV.out.keep hW))
            clear hrl
            generalize tabRow g a i j = RL at *
            generalize shortLen g a (i : Int) (j : Int) = sl at *
            go_wp2_with fail
            refine (HSH.out _ HBW2.out).mono ?_
            rintro e w6 ⟨rfl, hb6⟩
            have HR6 := Lib.hid (ownsRow_below HROW.out hb6 (Nat.le_refl _))
            have hs6 := hb6.size
            go_wp2_with (at_builtin; (refine wpList_append1 cI elInt rfl _ _ rfl w5.heap.size _ RL sl _ 1 _ (by rfl) HR6.out (by rfl) rfl rfl rfl (cI_one _) (by omega) (by omega) (by omega) ?_); intro v' w4 hrow' hb4 _ _)
            go_roundw
            case rel => exact ⟨j + 1, by omega, by go_num, by rw [HRS.out]; exact hrow', (hbel2.trans (hb6.mono hsz2)).trans hb4⟩
            case measure => simp [intOf]; omega
          · obtain rfl : j = g.vals.length := by omega
            have hrow := HROW.out
            rw [hrl] at hrow
            obtain ⟨gb, cb, rfl, hgb, hgb2, -, -⟩ := own_some hrow (by omega)
            have HN2 := Lib.hid (HNS.out.below hbel2)
            clear hrow hrl
            generalize tabRow g a i g.vals.length = RL at *
            go_wp2_with (at_builtin; (refine wpList_append1 cV elSS rfl _ _ rfl (W0.heap.size) _ us (.slice (some ⟨gb, 0, none⟩) g.vals.length cb) _ 1 _ (by rfl) HN2.out.own (by rfl) rfl rfl rfl (by intro u hu; simp only [cV, List.mem_cons, List.not_mem_nil, or_false] at hu; subst hu; rfl) (by omega) (by omega) (by omega) ?_); intro v' w4 hrow' hb4 hat4 hgr4)
            go_roundw
            case rel =>
              have hat2 : ∀ g1, v'.ownBlock = some g1 → Value.ownBlock _ = some g1 ∨ wr.heap.size ≤ g1 := fun g1 hg1 => by
                rcases hat4 with h1 | ⟨g2, h1, h2⟩
                · exact .inl (by rw [← h1]; exact hg1)
                · rw [h1] at hg1
                  injection hg1 with hg1
                  exact .inr (by omega)
              exact ⟨i + 1, us ++ [.slice (some ⟨gb, 0, none⟩) g.vals.length cb], by omega, by go_num, by rw [HTS.out]; exact HN2.out.push (ownsRow_mono HROW.out (by omega)) (fun b hb hm => by cases hb; have h1 := (HNS.out.lt gb hm).2; omega) (grown_alloc hgr4) hrow' hat2, (hbel.trans (hbel2.mono (by omega))).trans hb4⟩
            case measure => simp [intOf]; omega
      · obtain rfl : i = g.vals.length := by omega
        rw [← HT.out] at HNS
        obtain ⟨A9, c9, rfl, -, -⟩ := HNS.out.shape
        have HNM := Lib.hid (HNS.out.mono (show w.heap.size ≤ W0.heap.size by omega))
        go_wp2_with fail
        go_ret
        exact ⟨_, _, rfl, HNM.out, HBW.out⟩
set_option maxHeartbeats 4000000 in
set_option maxRecDepth 100000 in
theorem specDistanceTable (vg va : Value) (g : Gr) (a : Au) (w : World) (hgv : GrV 0 w.heap.size w vg g) (hav : AuV 0 w.heap.size w va a) :
    Calls Tryz.prog 16 #[vg, va] w fun e w' => ∃ v' us, e = .returned v' ∧ NS w.heap.size w' 24 3 cI 1 v' us (tabL g a) ∧ Below w.heap.size w w' := by
  have hgv0 := hgv
  have hav0 := hav
  obtain ⟨A1, c1, A2, c2, rfl, hl1, hm1, hl2, hm2, -, -⟩ := hgv.form
  obtain ⟨A3, n3, c3, A4, n4, c4, rfl⟩ := hav.shape
  have hb0 : Below w.heap.size w ((w.alloc (.cells #[.slice A1 g.vals.length c1, .slice A2 g.edges.length c2] 27)).alloc (.cells #[.int .i64 a.start, .slice A3 n3 c3, .slice A4 n4 c4] 31)) := ((Below.refl _ _).alloc (Nat.le_refl _) _).alloc (by simp) _
  have HGV := Lib.hid hgv0
  have HAV := Lib.hid hav0
  obtain ⟨T, hT⟩ : ∃ T, T = tabL g a := ⟨_, rfl⟩
  rw [← hT]
  clear hgv hav hgv0 hav0
  go_enter Tryz.func16, Tryz.ntmps16
  go_wp2_with fail
  obtain ⟨W0, hW0⟩ : ∃ W0, W0 = ((w.alloc (.cells #[.slice A1 g.vals.length c1, .slice A2 g.edges.length c2] 27)).alloc (.cells #[.int .i64 a.start, .slice A3 n3 c3, .slice A4 n4 c4] 31)).alloc (.cells #[] 24) := ⟨_, rfl⟩
  have hb0 : Below w.heap.size w W0 := by rw [hW0]; exact hb0.alloc hb0.size _
  rw [← hW0]
  have bx : Blk W0 w.heap.size 27 #[.slice A1 g.vals.length c1, .slice A2 g.edges.length c2] := by rw [hW0]; exact ((Blk.new w _ _ w.heap.size rfl).alloc _).alloc _
  have by_ : Blk W0 (w.heap.size + 1) 31 #[.int .i64 a.start, .slice A3 n3 c3, .slice A4 n4 c4] := by rw [hW0]; exact (Blk.new (w.alloc _) _ _ (w.heap.size + 1) (by simp)).alloc _
  have x0 : W0.cell? ⟨w.heap.size, 0, none⟩ = some (.slice A1 g.vals.length c1) := by exact bx.cell 0
  have x1 : W0.cell? ⟨w.heap.size, 1, none⟩ = some (.slice A2 g.edges.length c2) := by exact bx.cell 1
  have y0 : W0.cell? ⟨w.heap.size + 1, 0, none⟩ = some (.int .i64 a.start) := by exact by_.cell 0
  have y1 : W0.cell? ⟨w.heap.size + 1, 1, none⟩ = some (.slice A3 n3 c3) := by exact by_.cell 1
  have y2 : W0.cell? ⟨w.heap.size + 1, 2, none⟩ = some (.slice A4 n4 c4) := by exact by_.cell 2
  have l0 := by_.lt
  have l00 := bx.lt
  have hrow0 : W0.ownsRow (w.heap.size + 1 + 1) 24 1 (.slice (some ⟨w.heap.size + 1 + 1, 0, none⟩) 0 0) 0 [] := by
    rw [hW0]
    have h := World.ownsRow_lit (base := w.heap.size + 1 + 1) (e := 24) (size := 1) ((w.alloc (.cells #[.slice A1 g.vals.length c1, .slice A2 g.edges.length c2] 27)).alloc (.cells #[.int .i64 a.start, .slice A3 n3 c3, .slice A4 n4 c4] 31)) #[] 0 (by simp) (by decide) rfl
    simpa using h
  have HROW0 := Lib.hid hrow0
  have hsW : W0.heap.size = w.heap.size + 1 + 1 + 1 := by rw [hW0]; simp
  have HSW := Lib.hid hsW
  clear hW0 bx by_ hrow0 hsW
  have hgx := l14Good_any _ _ g a 0 0 W0 (HGV.out.keep hb0) (HAV.out.keep hb0)
  rw [goodB00] at hgx
  have HGX := Lib.hid hgx
  clear hgx
  cases hk : (grOk g && auOk a) with
  | false =>
    rw [hk] at HGX
    have hr0 : T = [] := by rw [hT, tabL, hk]; rfl
    subst hr0
    clear hk hT
    refine HGX.out.mono ?_
    rintro e w1 ⟨rfl, hb1⟩
    have hr1 := Lib.hid (ownsRow_mono (b := w.heap.size) (ownsRow_below HROW0.out hb1 (Nat.le_refl _)) (by omega))
    go_wp2_with fail
    go_ret
    exact ⟨_, [], rfl, NS.start hr1.out, below_trans hb0 hb1⟩
  | true =>
    rw [hk] at HGX
    have hT2 : T = tabTo g a g.vals.length := by rw [hT, tabL, hk]; rfl
    have hn5 := (grOk_iff.1 (Bool.and_eq_true .. ▸ hk).1).n5
    have hn1 := (grOk_iff.1 (Bool.and_eq_true .. ▸ hk).1).n1
    have HT := Lib.hid hT2
    clear hk hT hT2
    refine HGX.out.mono ?_
    rintro e w1 ⟨rfl, hb1⟩
    have HR1 := Lib.hid (ownsRow_below HROW0.out hb1 (Nat.le_refl _))
    have hz1 : w.heap.size + 1 + 1 ≤ w1.heap.size := by have := HSW.out; have := hb1.size; omega
    obtain ⟨gB, hgB⟩ : ∃ gB, gB = w.heap.size + 1 + 1 := ⟨_, rfl⟩
    obtain ⟨W1, rfl⟩ : ∃ W1 : World, W1 = W0 := ⟨_, rfl⟩
    have x0 := kcell hb1 x0
    have x1 := kcell hb1 x1
    have y0 := kcell hb1 y0
    have y1 := kcell hb1 y1
    have y2 := kcell hb1 y2
    have hb0 := below_trans hb0 hb1
    have l0 := Nat.lt_of_lt_of_le l0 hb1.size
    have l00 := Nat.lt_of_lt_of_le l00 hb1.size
    obtain ⟨W0, rfl⟩ : ∃ W0 : World, W0 = w1 := ⟨_, rfl⟩
    clear hb1
    go_wp2_with fail
    rw [← hgB] at HR1 hz1 ⊢
    have hgBl : w.heap.size + 1 < gB := by omega
    clear hgB
    go_loopw [5, 6] (fun oo ii wr => ∃ (i : Nat) (us : List Value), i ≤ g.vals.length ∧ ii = .int .i64 (i : Int) ∧ NS gB wr 24 3 cI 1 oo us (tabTo g a i) ∧ Below gB W0 wr) (fun _ ii _ => g.vals.length - (intOf ii).toNat)
    case atStart => exact ⟨0, [], Nat.zero_le _, rfl, NS.start HR1.out, Below.refl _ _⟩
    case round =>
      obtain ⟨i, us, hi, rfl, hns, hbel⟩ := hrel
      have HNS := Lib.hid hns
      have x0 := (hbel.cell (p := ⟨w.heap.size, 0, none⟩) (by simp only; omega)).trans x0
      have x1 := (hbel.cell (p := ⟨w.heap.size, 1, none⟩) (by simp only; omega)).trans x1
      have y0 := (hbel.cell (p := ⟨w.heap.size + 1, 0, none⟩) (by simp only; omega)).trans y0
      have y1 := (hbel.cell (p := ⟨w.heap.size + 1, 1, none⟩) (by simp only; omega)).trans y1
      have y2 := (hbel.cell (p := ⟨w.heap.size + 1, 2, none⟩) (by simp only; omega)).trans y2
      have hsz := hbel.size
      have l0 := Nat.lt_of_lt_of_le l0 hsz
      have l00 := Nat.lt_of_lt_of_le l00 hsz
      have hbw := hb0.trans (hbel.mono (show w.heap.size ≤ gB by omega))
      have HBW := Lib.hid hbw
      clear hns hbw
      by_cases hlt : i < g.vals.length
      · have hii : (i : Int) < (g.vals.length : Int) := by omega
        have HTS := Lib.hid (tabTo_snoc g a i)
        have hus := HNS.out.len
        have htl := tabTo_len g a i
        obtain ⟨w5, rfl⟩ : ∃ w5 : World, w5 = wr := ⟨_, rfl⟩
        have hul : us.length ≤ 5 := by omega
        have HUS := Lib.hid (show us.length = i by omega)
        clear hus htl
        generalize tabTo g a i = TL at *
        go_wp2_with fail
        go_loopw [7, 8] (fun rr jj wr => ∃ j : Nat, j ≤ g.vals.length ∧ jj = .int .i64 (j : Int) ∧ wr.ownsRow w5.heap.size 3 1 rr (tabRow g a i j).length ((tabRow g a i j).flatMap cI) ∧ Below w5.heap.size w5 wr) (fun _ jj _ => g.vals.length - (intOf jj).toNat)
        case atStart => exact ⟨0, Nat.zero_le _, rfl, World.ownsRow_lit w5 #[] 0 (Nat.le_refl _) (by decide) rfl, (Below.refl _ _).alloc (Nat.le_refl _) _⟩
        case round =>
          obtain ⟨j, hj, rfl, hrow, hbel2⟩ := hrel
          have HROW := Lib.hid hrow
          have x0 := kcell hbel2 x0
          have x1 := kcell hbel2 x1
          have y0 := kcell hbel2 y0
          have y1 := kcell hbel2 y1
          have y2 := kcell hbel2 y2
          have hsz2 := hbel2.size
          have l0 := Nat.lt_of_lt_of_le l0 hsz2
          have l00 := Nat.lt_of_lt_of_le l00 hsz2
          have hrl := tabRow_len g a i j
          have HBW2 := Lib.hid (below_trans HBW.out hbel2)
          clear hrow
          by_cases hlj : j < g.vals.length
          · have hjj : (j : Int) < (g.vals.length : Int) := by omega
            have HRS := Lib.hid (tabRow_snoc g a i j)
            have hrl2 : (tabRow g a i j).length ≤ 5 := by omega
            have HSH := Lib.hid (fun (W : World) (hW : Below w.heap.size w W) => specShortestLength _ _ g a (i : Int) (j : Int) W (HGV.out.keep hW) (HAV.out.keep hW))
            clear hrl
            generalize tabRow g a i j = RL at *
            generalize shortLen g a (i : Int) (j : Int) = sl at *
            go_wp2_with fail
            refine (HSH.out _ HBW2.out).mono ?_
            rintro e w6 ⟨rfl, hb6⟩
            have HR6 := Lib.hid (ownsRow_below HROW.out hb6 (Nat.le_refl _))
            have hs6 := hb6.size
            go_wp2_with (at_builtin; (refine wpList_append1 cI elInt rfl _ _ rfl w5.heap.size _ RL sl _ 1 _ (by rfl) HR6.out (by rfl) rfl rfl rfl (cI_one _) (by omega) (by omega) (by omega) ?_); intro v' w4 hrow' hb4 _ _)
            go_roundw
            case rel => exact ⟨j + 1, by omega, by go_num, by rw [HRS.out]; exact hrow', (hbel2.trans (hb6.mono hsz2)).trans hb4⟩
            case measure => simp [intOf]; omega
          · obtain rfl : j = g.vals.length := by omega
            have hrow := HROW.out
            rw [hrl] at hrow
            obtain ⟨gb, cb, rfl, hgb, hgb2, -, -⟩ := own_some hrow (by omega)
            have HN2 := Lib.hid (HNS.out.below hbel2)
            clear hrow hrl
            generalize tabRow g a i g.vals.length = RL at *
            go_wp2_with (at_builtin; (refine wpList_append1 cV elSS rfl _ _ rfl (gB) _ us (.slice (some ⟨gb, 0, none⟩) g.vals.length cb) _ 1 _ (by rfl) HN2.out.own (by rfl) rfl rfl rfl (by intro u hu; simp only [cV, List.mem_cons, List.not_mem_nil, or_false] at hu; subst hu; rfl) (by omega) (by omega) (by omega) ?_); intro v' w4 hrow' hb4 hat4 hgr4)
            go_roundw
            case rel =>
              have hat2 : ∀ g1, v'.ownBlock = some g1 → Value.ownBlock _ = some g1 ∨ wr.heap.size ≤ g1 := fun g1 hg1 => by
                rcases hat4 with h1 | ⟨g2, h1, h2⟩
                · exact .inl (by rw [← h1]; exact hg1)
                · rw [h1] at hg1
                  injection hg1 with hg1
                  exact .inr (by omega)
              exact ⟨i + 1, us ++ [.slice (some ⟨gb, 0, none⟩) g.vals.length cb], by omega, by go_num, by rw [HTS.out]; exact HN2.out.push (ownsRow_mono HROW.out (by omega)) (fun b hb hm => by cases hb; have h1 := (HNS.out.lt gb hm).2; omega) (grown_alloc hgr4) hrow' hat2, (hbel.trans (hbel2.mono (by omega))).trans hb4⟩
            case measure => simp [intOf]; omega
      · obtain rfl : i = g.vals.length := by omega
        rw [← HT.out] at HNS
        obtain ⟨A9, c9, rfl, -, -⟩ := HNS.out.shape
        have HNM := Lib.hid (HNS.out.mono (show w.heap.size ≤ gB by omega))
        go_wp2_with fail
        go_ret
        exact ⟨_, _, rfl, HNM.out, HBW.out⟩
def longL (g : Gr) (a : Au) : Int := (tabL g a).flatten.foldl max (-1)
def bestTo (T : List (List Int)) (i : Nat) : Int := (T.take i).flatten.foldl max (-1)
theorem bestTo_snoc {T : List (List Int)} {i : Nat} {r : List Int} (h : T[i]? = some r) : bestTo T (i + 1) = r.foldl max (bestTo T i) := by
  rw [bestTo, take_snoc h, List.flatten_append, List.foldl_append]
  simp [bestTo]
theorem foldl_max (t : List Int) : ∀ b h : Int, t.foldl max (max b h) = max b (t.foldl max h) := by
  induction t with
  | nil => intro b h; rfl
  | cons x t ih => intro b h; rw [List.foldl_cons, List.foldl_cons, ← ih, Int.max_assoc]
theorem max_row {r : List Int} (h : r ≠ []) (b : Int) : r.foldl max b = max b (Lib.maxOf r) := by
  cases r with
  | nil => exact absurd rfl h
  | cons x t => rw [List.foldl_cons, foldl_max]; simp [Lib.maxOf]
theorem tabL_rows {g : Gr} {a : Au} {i : Nat} {r : List Int} (h : (tabL g a)[i]? = some r) : r.length ≠ 0 ∧ r.length ≤ 5 := by
  unfold tabL at h
  split at h
  · rename_i hk
    simp only [Bool.and_eq_true] at hk
    have hg := grOk_iff.1 hk.1
    obtain ⟨x, -, rfl⟩ := List.mem_map.1 (List.mem_of_getElem? h)
    rw [tabRow_len]
    have := hg.n1
    have := hg.n5
    omega
  · simp at h
theorem tabL_len (g : Gr) (a : Au) : (tabL g a).length ≤ 5 := by
  unfold tabL
  split
  · rename_i hk
    simp only [Bool.and_eq_true] at hk
    rw [tabTo_len]
    exact (grOk_iff.1 hk.1).n5
  · simp
set_option maxHeartbeats 4000000 in
theorem implLongestShortest (vg va : Value) (g : Gr) (a : Au) (w : World) (hgv : GrV 0 w.heap.size w vg g) (hav : AuV 0 w.heap.size w va a) :
    Calls Tryz.prog 17 #[vg, va] w fun e w' => e = .returned (.int .i64 (longL g a)) ∧ Below w.heap.size w w' := by
  have hgv0 := hgv
  have hav0 := hav
  obtain ⟨A1, n1, c1, A2, n2, c2, rfl⟩ := hgv.shape
  obtain ⟨A3, n3, c3, A4, n4, c4, rfl⟩ := hav.shape
  have hb0 : Below w.heap.size w ((w.alloc (.cells #[.slice A1 n1 c1, .slice A2 n2 c2] 27)).alloc (.cells #[.int .i64 a.start, .slice A3 n3 c3, .slice A4 n4 c4] 31)) := ((Below.refl _ _).alloc (Nat.le_refl _) _).alloc (by simp) _
  have hdt := implDistanceTable _ _ g a _ (hgv0.keep hb0) (hav0.keep hb0)
  have HDT := Lib.hid hdt
  have HROWS := Lib.hid (fun (i : Nat) (r : List Int) (h : (tabL g a)[i]? = some r) => tabL_rows h)
  have hTl := tabL_len g a
  have HLL := Lib.hid (show longL g a = bestTo (tabL g a) (tabL g a).length by rw [bestTo, List.take_length]; rfl)
  obtain ⟨R, hR⟩ : ∃ R, R = longL g a := ⟨_, rfl⟩
  rw [← hR] at HLL ⊢
  clear hgv hav hgv0 hav0 hdt hR
  generalize tabL g a = T at *
  go_enter Tryz.func17, Tryz.ntmps17
  go_wp2_with fail
  refine HDT.out.mono ?_
  rintro e w1 ⟨v1, us, rfl, hns, hb1⟩
  have hbw := below_trans hb0 hb1
  obtain ⟨A9, c9, rfl, hl9, hm9⟩ := hns.shape
  unfold maxLen at hm9
  have HNS := Lib.hid hns
  clear hns HDT hb0 hb1
  go_wp2_with fail
  go_loop [5, 12] (fun bb ii => ∃ i : Nat, i ≤ T.length ∧ ii = .int .i64 (i : Int) ∧ bb = .int .i64 (bestTo T i)) (fun _ ii => T.length - (intOf ii).toNat)
  case atStart => exact ⟨0, Nat.zero_le _, rfl, rfl⟩
  case round =>
    obtain ⟨i, hi, rfl, rfl⟩ := hrel
    by_cases hlt : i < T.length
    · have hTi : T[i]? = some T[i] := List.getElem?_eq_getElem hlt
      have HBS := Lib.hid (bestTo_snoc hTi)
      have hrr := HROWS.out i _ hTi
      obtain ⟨gT, capT, A, c, hv, -, hgT, hcell, hl, hm, hsl⟩ := HNS.out.row cI_len hTi
      generalize T[i] = r at *
      injection hv with e1 _ e3
      subst e1
      subst e3
      have hii : (i : Int) < (T.length : Int) := by omega
      obtain ⟨x, t, hxt⟩ : ∃ x t, r = x :: t := by
        cases r with
        | nil => exact absurd rfl hrr.1
        | cons x t => exact ⟨x, t, rfl⟩
      have hr0 : r[0]? = some x := by rw [hxt]; rfl
      obtain ⟨b, o, hA, -, hb, -⟩ : ∃ b o, A = some ⟨b, o, none⟩ ∧ True ∧ b < w1.heap.size ∧ True := by
        obtain ⟨A', c', hv', _, _, h3⟩ := hsl
        injection hv' with h1 _ _
        subst h1
        obtain ⟨b, o, e, g1, g2, hc⟩ := h3 0 x hr0
        exact ⟨b, o, e, trivial, g2, trivial⟩
      subst hA
      have hmx := Tryz.slices_Max_int b o r.length c r w1 (by omega) (Nat.le_refl _) (by omega) (fun j hj => by
        obtain ⟨A', c', hv', _, _, h3⟩ := hsl
        injection hv' with h1 _ _
        subst h1
        obtain ⟨b', o', e, g1, g2, hc⟩ := h3 j _ (getD_of hj)
        injection e with e
        injection e with e2 e3
        subst e2 e3
        simpa using hc 0 _ rfl)
      rw [List.take_length] at hmx
      have HMX := Lib.hid hmx
      have HBS2 := Lib.hid (HBS.out.trans (max_row (by rw [hxt]; simp) _))
      clear hTi hxt hr0 hsl hmx HBS
      generalize bestTo T i = bt at *
      generalize Lib.maxOf r = mr at *
      go_wp2_with fail
      refine HMX.out.mono ?_
      rintro e w2 ⟨rfl, rfl⟩
      go_wp2_with fail
      go_round
      case rel => exact ⟨i + 1, by omega, by go_num, by rw [HBS2.out]⟩
      case measure => simp [intOf]; omega
    · obtain rfl : i = T.length := by omega
      rw [← HLL.out]
      go_wp2_with fail
      go_ret
      exact ⟨rfl, hbw⟩
set_option maxHeartbeats 4000000 in
theorem specLongestShortest (vg va : Value) (g : Gr) (a : Au) (w : World) (hgv : GrV 0 w.heap.size w vg g) (hav : AuV 0 w.heap.size w va a) :
    Calls Tryz.prog 18 #[vg, va] w fun e w' => e = .returned (.int .i64 (longL g a)) ∧ Below w.heap.size w w' := by
  have hgv0 := hgv
  have hav0 := hav
  obtain ⟨A1, n1, c1, A2, n2, c2, rfl⟩ := hgv.shape
  obtain ⟨A3, n3, c3, A4, n4, c4, rfl⟩ := hav.shape
  have hb0 : Below w.heap.size w ((w.alloc (.cells #[.slice A1 n1 c1, .slice A2 n2 c2] 27)).alloc (.cells #[.int .i64 a.start, .slice A3 n3 c3, .slice A4 n4 c4] 31)) := ((Below.refl _ _).alloc (Nat.le_refl _) _).alloc (by simp) _
  have hdt := specDistanceTable _ _ g a _ (hgv0.keep hb0) (hav0.keep hb0)
  have HDT := Lib.hid hdt
  have HROWS := Lib.hid (fun (i : Nat) (r : List Int) (h : (tabL g a)[i]? = some r) => tabL_rows h)
  have hTl := tabL_len g a
  have HLL := Lib.hid (show longL g a = bestTo (tabL g a) (tabL g a).length by rw [bestTo, List.take_length]; rfl)
  obtain ⟨R, hR⟩ : ∃ R, R = longL g a := ⟨_, rfl⟩
  rw [← hR] at HLL ⊢
  clear hgv hav hgv0 hav0 hdt hR
  generalize tabL g a = T at *
  go_enter Tryz.func18, Tryz.ntmps18
  go_wp2_with fail
  refine HDT.out.mono ?_
  rintro e w1 ⟨v1, us, rfl, hns, hb1⟩
  have hbw := below_trans hb0 hb1
  obtain ⟨A9, c9, rfl, hl9, hm9⟩ := hns.shape
  unfold maxLen at hm9
  have HNS := Lib.hid hns
  clear hns HDT hb0 hb1
  go_wp2_with fail
  go_loop [5, 7] (fun bb ii => ∃ i : Nat, i ≤ T.length ∧ ii = .int .i64 (i : Int) ∧ bb = .int .i64 (bestTo T i)) (fun _ ii => T.length - (intOf ii).toNat)
  case atStart => exact ⟨0, Nat.zero_le _, rfl, rfl⟩
  case round =>
    obtain ⟨i, hi, rfl, rfl⟩ := hrel
    by_cases hlt : i < T.length
    · have hTi : T[i]? = some T[i] := List.getElem?_eq_getElem hlt
      have HBS := Lib.hid (bestTo_snoc hTi)
      have hrr := HROWS.out i _ hTi
      obtain ⟨gT, capT, A, c, hv, -, hgT, hcell, hl, hm, hsl⟩ := HNS.out.row cI_len hTi
      generalize T[i] = r at *
      injection hv with e1 _ e3
      subst e1
      subst e3
      have hii : (i : Int) < (T.length : Int) := by omega
      have HSL := Lib.hid hsl
      clear hTi hsl
      generalize bestTo T i = bt at *
      go_wp2_with fail
      go_loop [5, 8] (fun bb jj => ∃ j : Nat, j ≤ r.length ∧ jj = .int .i64 (j : Int) ∧ bb = .int .i64 ((r.take j).foldl max bt)) (fun _ jj => r.length - (intOf jj).toNat)
      case atStart => exact ⟨0, Nat.zero_le _, rfl, rfl⟩
      case round =>
        obtain ⟨j, hj, rfl, rfl⟩ := hrel
        by_cases hlj : j < r.length
        · have hrj : r[j]? = some r[j] := List.getElem?_eq_getElem hlj
          have HFT := Lib.hid (foldl_take (f := max) hrj bt)
          generalize r[j] = x at *
          obtain ⟨b, o, rfl, hb, d⟩ : ∃ b o, A = some ⟨b, o, none⟩ ∧ b < w1.heap.size ∧ w1.cell? ⟨b, o + j, none⟩ = some (.int .i64 x) := by
            obtain ⟨A', c', hv', _, _, h3⟩ := HSL.out
            injection hv' with h1 _ _
            subst h1
            obtain ⟨b, o, e, g1, g2, hc⟩ := h3 j x hrj
            exact ⟨b, o, e, g2, by simpa using hc 0 _ rfl⟩
          have hjj : (j : Int) < (r.length : Int) := by omega
          clear hrj
          generalize (r.take j).foldl max bt = b2 at *
          go_wp2_with fail
          go_round
          case rel => exact ⟨j + 1, by omega, by go_num, by rw [HFT.out]⟩
          case measure => simp [intOf]; omega
        · obtain rfl : j = r.length := by omega
          go_wp2_with fail
          go_round
          case rel => exact ⟨i + 1, by omega, by go_num, by rw [HBS.out, List.take_length]⟩
          case measure => simp [intOf]; omega
    · obtain rfl : i = T.length := by omega
      rw [← HLL.out]
      go_wp2_with fail
      go_ret
      exact ⟨rfl, hbw⟩
end Go.Proofs.YtallglnmeeahiaaGreat
namespace Go.Proofs.YtallglnmeeahiaaGreat
set_option linter.unusedVariables false
set_option linter.unusedSimpArgs false
open Go.ChangeShapes Go.WideShapes Go.ChangeAt Go.RowKit
attribute [local go_sem] ext_cell ext_frozen ext_lt ext_lt1 ext_lt2 ext_lt3 ltn2 ltn3 ltn13 lts1 lts2 lts3
def allRow (g : Gr) (a : Au) (x k : Nat) : List Pr := ((ansL g a (x : Int)).take k).map fun y => ((x : Int), y)
def allTo (g : Gr) (a : Au) (i : Nat) : List Pr := (List.range i).flatMap fun (x : Nat) => allRow g a x (ansL g a (x : Int)).length
def allL (g : Gr) (a : Au) : List Pr := if (grOk g && auOk a) = true then allTo g a g.vals.length else []
theorem allRow_zero (g : Gr) (a : Au) (x : Nat) : allRow g a x 0 = [] := by simp [allRow]
theorem allRow_snoc {g : Gr} {a : Au} {x k : Nat} {y : Int} (h : (ansL g a (x : Int))[k]? = some y) : allRow g a x (k + 1) = allRow g a x k ++ [((x : Int), y)] := by
  rw [allRow, take_snoc h, List.map_append]; rfl
theorem allRow_len (g : Gr) (a : Au) (x k : Nat) : (allRow g a x k).length ≤ 30 := by
  have := ansL_len g a (x : Int)
  simp only [allRow, List.length_map, List.length_take]; omega
theorem allTo_snoc (g : Gr) (a : Au) (i : Nat) : allTo g a (i + 1) = allTo g a i ++ allRow g a i (ansL g a (i : Int)).length := by
  simp [allTo, List.range_succ]
theorem allTo_len (g : Gr) (a : Au) (i : Nat) : (allTo g a i).length ≤ 30 * i := by
  induction i with
  | zero => simp [allTo]
  | succ i ih =>
    have := allRow_len g a i (ansL g a (i : Int)).length
    rw [allTo_snoc, List.length_append]; omega
set_option maxHeartbeats 4000000 in
set_option maxRecDepth 100000 in
theorem specAllAnswers (vg va : Value) (g : Gr) (a : Au) (w : World) (hgv : GrV 0 w.heap.size w vg g) (hav : AuV 0 w.heap.size w va a) :
    Calls Tryz.prog 59 #[vg, va] w fun e w' => ∃ v', e = .returned v' ∧ Own w.heap.size w'.heap.size w' 83 cPr 2 v' (allL g a) ∧ Below w.heap.size w w' := by
  obtain ⟨R, hR⟩ : ∃ R, R = allL g a := ⟨_, rfl⟩
  rw [← hR]
  have HRR := Lib.hid hR
  clear hR
  have hgv0 := hgv
  have hav0 := hav
  obtain ⟨A1, c1, A2, c2, rfl, hl1, hm1, hl2, hm2, hC1, -⟩ := hgv.form
  obtain ⟨ac, nx, rfl, hac, hnx⟩ := hav
  obtain ⟨A3, c3, rfl, hl3, hm3, -⟩ := SlE.form hac
  obtain ⟨A4, n4, c4, rfl⟩ := hnx.shape
  have hb0 : Below w.heap.size w ((w.alloc (.cells #[.slice A1 g.vals.length c1, .slice A2 g.edges.length c2] 27)).alloc (.cells #[.int .i64 a.start, .slice A3 a.accept.length c3, .slice A4 n4 c4] 31)) := ((Below.refl _ _).alloc (Nat.le_refl _) _).alloc (by simp) _
  have HGV := Lib.hid hgv0
  have HAV := Lib.hid hav0
  have HC1 := Lib.hid hC1
  clear hgv hac hnx hgv0 hav0 hC1
  go_enter Tryz.func59, Tryz.ntmps59
  go_wp2_with fail
  obtain ⟨W0, hW0⟩ : ∃ W0, W0 = ((w.alloc (.cells #[.slice A1 g.vals.length c1, .slice A2 g.edges.length c2] 27)).alloc (.cells #[.int .i64 a.start, .slice A3 a.accept.length c3, .slice A4 n4 c4] 31)).alloc (.cells #[] 83) := ⟨_, rfl⟩
  have hb0 : Below w.heap.size w W0 := by rw [hW0]; exact hb0.alloc hb0.size _
  rw [← hW0]
  have bx : Blk W0 w.heap.size 27 #[.slice A1 g.vals.length c1, .slice A2 g.edges.length c2] := by rw [hW0]; exact ((Blk.new w _ _ w.heap.size rfl).alloc _).alloc _
  have by_ : Blk W0 (w.heap.size + 1) 31 #[.int .i64 a.start, .slice A3 a.accept.length c3, .slice A4 n4 c4] := by rw [hW0]; exact (Blk.new (w.alloc _) _ _ (w.heap.size + 1) (by simp)).alloc _
  have hrow0 : W0.ownsRow (w.heap.size + 1 + 1) 83 2 (.slice (some ⟨w.heap.size + 1 + 1, 0, none⟩) 0 0) ([] : List Pr).length (([] : List Pr).flatMap cPr) := by
    rw [hW0]
    have h := World.ownsRow_lit (base := w.heap.size + 1 + 1) (e := 83) (size := 2) ((w.alloc (.cells #[.slice A1 g.vals.length c1, .slice A2 g.edges.length c2] 27)).alloc (.cells #[.int .i64 a.start, .slice A3 a.accept.length c3, .slice A4 n4 c4] 31)) #[] 0 (by simp) (by decide) rfl
    simpa using h
  have x0 : W0.cell? ⟨w.heap.size, 0, none⟩ = some (.slice A1 g.vals.length c1) := bx.cell 0
  have x1 : W0.cell? ⟨w.heap.size, 1, none⟩ = some (.slice A2 g.edges.length c2) := bx.cell 1
  have y0 : W0.cell? ⟨w.heap.size + 1, 0, none⟩ = some (.int .i64 a.start) := by_.cell 0
  have y1 : W0.cell? ⟨w.heap.size + 1, 1, none⟩ = some (.slice A3 a.accept.length c3) := by_.cell 1
  have y2 : W0.cell? ⟨w.heap.size + 1, 2, none⟩ = some (.slice A4 n4 c4) := by_.cell 2
  have l0 := by_.lt
  have l00 := bx.lt
  have HROW0 := Lib.hid hrow0
  have hsW : W0.heap.size = w.heap.size + 1 + 1 + 1 := by rw [hW0]; simp
  have hsW' : w.heap.size + 1 + 1 < W0.heap.size := by omega
  have HSW := Lib.hid hsW
  clear hW0 bx by_ hrow0 hsW
  have HG := Lib.hid (fun (W : World) (hW : Below w.heap.size w W) => show Calls Tryz.prog 42 #[_, _, .int .i64 0, .int .i64 0] W fun e w' => e = .returned (.bool (grOk g && auOk a)) ∧ Below W.heap.size W w' by rw [← goodB00]; exact l14Good_any _ _ g a 0 0 W (HGV.out.keep hW) (HAV.out.keep hW))
  have hR := HRR.out
  rw [allL] at hR
  clear HRR
  cases hk : (grOk g && auOk a) with
  | false =>
    rw [hk] at HG hR
    have hr0 : R = [] := hR
    subst hr0
    have HB0 := Lib.hid hb0
    clear hk hR hb0
    go_loopw [5, 6] (fun oo ii wr => oo = .slice (some ⟨w.heap.size + 1 + 1, 0, none⟩) 0 0 ∧ ii = .int .i64 0 ∧ wr = W0) (fun _ _ _ => 0)
    case atStart => exact ⟨rfl, rfl, rfl⟩
    case round =>
      obtain ⟨rfl, rfl, rfl⟩ := hrel
      have hO := Lib.hid ((Own.of_row (xs := ([] : List Pr)) HROW0.out rfl rfl).mono (show w.heap.size ≤ w.heap.size + 1 + 1 by omega) (Nat.le_refl _))
      by_cases h0 : (0 : Int) < (g.vals.length : Int)
      · go_wp2_with fail
        refine (HG.out _ HB0.out).mono ?_
        rintro e w2 ⟨rfl, hb2⟩
        have HO2 := Lib.hid ((hO.out.below hb2 (Nat.le_refl _)).mono (Nat.le_refl _) hb2.size)
        go_wp2_with fail
        go_ret
        exact ⟨_, rfl, HO2.out, below_trans HB0.out hb2⟩
      · go_wp2_with fail
        go_ret
        exact ⟨_, rfl, hO.out, HB0.out⟩
  | true =>
    rw [hk] at HG hR
    simp only [Bool.and_eq_true] at hk
    obtain ⟨hgo, hao⟩ := hk
    have hn5 := (grOk_iff.1 hgo).n5
    have hr1 : R = allTo g a g.vals.length := hR
    have HR := Lib.hid hr1
    have HLF := Lib.hid (fun (x : Nat) (W : World) (hW : Below w.heap.size w W) (hx : x < g.vals.length) => l15From_any _ _ g a x W (HGV.out.keep hW) (HAV.out.keep hW) hgo hao hx)
    clear hgo hao hR hr1
    obtain ⟨gO, hgO⟩ : ∃ gO, gO = w.heap.size + 1 + 1 := ⟨_, rfl⟩
    rw [← hgO] at HROW0 hsW' ⊢
    have hgw : w.heap.size + 1 < gO := by omega
    have hgs := hsW'
    have hb5 := hb0
    obtain ⟨W5, rfl⟩ : ∃ W5 : World, W5 = W0 := ⟨_, rfl⟩
    clear hgO HSW hsW' hb0
    go_loopw [5, 6] (fun oo ii wr => ∃ i : Nat, i ≤ g.vals.length ∧ ii = .int .i64 (i : Int) ∧ wr.ownsRow gO 83 2 oo (allTo g a i).length ((allTo g a i).flatMap cPr) ∧ Below gO W5 wr) (fun _ ii _ => g.vals.length - (intOf ii).toNat)
    case atStart => exact ⟨0, Nat.zero_le _, rfl, HROW0.out, Below.refl _ _⟩
    case round =>
      clear HROW0
      obtain ⟨i, hi, rfl, hrow, hbel⟩ := hrel
      have x0 := (hbel.cell (p := ⟨w.heap.size, 0, none⟩) (by simp only; omega)).trans x0
      have x1 := (hbel.cell (p := ⟨w.heap.size, 1, none⟩) (by simp only; omega)).trans x1
      have y0 := (hbel.cell (p := ⟨w.heap.size + 1, 0, none⟩) (by simp only; omega)).trans y0
      have y1 := (hbel.cell (p := ⟨w.heap.size + 1, 1, none⟩) (by simp only; omega)).trans y1
      have y2 := (hbel.cell (p := ⟨w.heap.size + 1, 2, none⟩) (by simp only; omega)).trans y2
      have hsz := hbel.size
      have l0 := Nat.lt_of_lt_of_le l0 hsz
      have l00 := Nat.lt_of_lt_of_le l00 hsz
      have hbw := hb5.trans (hbel.mono (show w.heap.size ≤ gO by omega))
      have HBW := Lib.hid hbw
      have HROW := Lib.hid hrow
      have HBEL := Lib.hid hbel
      have hfl := allTo_len g a i
      clear hrow hbw hbel
      obtain ⟨wo, rfl⟩ : ∃ wo : World, wo = wr := ⟨_, rfl⟩
      by_cases hlt : i < g.vals.length
      · have hii : (i : Int) < (g.vals.length : Int) := by omega
        go_wp2_with fail
        refine (HG.out _ HBW.out).mono ?_
        rintro e w2 ⟨rfl, hb2⟩
        have hbw2 := below_trans HBW.out hb2
        have x0 := kcell hb2 x0
        have x1 := kcell hb2 x1
        have y0 := kcell hb2 y0
        have y1 := kcell hb2 y1
        have y2 := kcell hb2 y2
        have HROW := Lib.hid (ownsRow_below HROW.out hb2 (Nat.le_refl _))
        have hs2 := hb2.size
        have l0 := Nat.lt_of_lt_of_le l0 hs2
        have l00 := Nat.lt_of_lt_of_le l00 hs2
        have HBEL := Lib.hid (HBEL.out.trans (hb2.mono (show gO ≤ wo.heap.size by omega)))
        have hsz := HBEL.out.size
        clear hb2
        obtain ⟨wp, rfl⟩ : ∃ wp : World, wp = wo := ⟨_, rfl⟩
        obtain ⟨wo, rfl⟩ : ∃ wo : World, wo = w2 := ⟨_, rfl⟩
        go_wp2_with fail
        refine (HLF.out i _ hbw2 hlt).mono ?_
        rintro e w6 ⟨v6, rfl, ho6, hb6⟩
        have hs6 := hb6.size
        have x0 := kcell hb6 x0
        have x1 := kcell hb6 x1
        have y0 := kcell hb6 y0
        have y1 := kcell hb6 y1
        have y2 := kcell hb6 y2
        have l0 := Nat.lt_of_lt_of_le l0 hs6
        have l00 := Nat.lt_of_lt_of_le l00 hs6
        have HB6 := Lib.hid hb6
        have HR6 := Lib.hid (ownsRow_below HROW.out hb6 (Nat.le_refl _))
        have hob6 := HROW.out.lt
        have HC6 := Lib.hid (ho6.sl cI_len)
        obtain ⟨A6, c6, rfl, hl6, hm6, -⟩ := ho6.form cI_len
        have HT1 := Lib.hid (allTo_snoc g a i)
        have hln := ansL_len g a (i : Int)
        have HRW := Lib.hid (fun (k : Nat) (y : Int) (h : (ansL g a (i : Int))[k]? = some y) => allRow_snoc (g := g) (a := a) (x := i) h)
        have HR0 := Lib.hid (allRow_zero g a i)
        have hrl := allRow_len g a i
        have HRL := Lib.hid hrl
        clear ho6 hrl
        generalize ansL g a (i : Int) = l at *
        generalize allTo g a i = L at *
        obtain ⟨N, hN⟩ : ∃ N, N = l.length := ⟨_, rfl⟩
        rw [← hN] at hl6 hln HT1 ⊢
        have HN := Lib.hid hN
        clear hN
        go_wp2_with fail
        go_loopw [5, 8] (fun oo jj wr => ∃ j : Nat, j ≤ N ∧ jj = .int .i64 (j : Int) ∧ wr.ownsRow gO 83 2 oo (L ++ allRow g a i j).length ((L ++ allRow g a i j).flatMap cPr) ∧ Only gO wo.heap.size w6 wr ∧ (∀ b, oo.ownBlock = some b → (gO ≤ b ∧ b < wo.heap.size) ∨ w6.heap.size ≤ b)) (fun _ jj _ => N - (intOf jj).toNat)
        case atStart => exact ⟨0, Nat.zero_le _, rfl, by rw [HR0.out, List.append_nil]; exact HR6.out, Only.refl _ _ _, fun b hb => .inl (hob6 b hb)⟩
        case round =>
          clear HR6 hob6
          obtain ⟨j, hj, rfl, hrow, hon, hob⟩ := hrel
          have x0 := ocell hon x0 l00 (.inl (by omega))
          have x1 := ocell hon x1 l00 (.inl (by omega))
          have y0 := ocell hon y0 l0 (.inl (by omega))
          have y1 := ocell hon y1 l0 (.inl (by omega))
          have y2 := ocell hon y2 l0 (.inl (by omega))
          have hsz2 := hon.size
          have HROW2 := Lib.hid hrow
          have HON := Lib.hid hon
          have HOB := Lib.hid hob
          have hrl := HRL.out j
          clear hrow hon hob
          by_cases hlj : j < N
          · have hjj : (j : Int) < (N : Int) := by omega
            have hyi := getD_of (D := l) (k := j) (by have := HN.out; omega)
            obtain ⟨b6, o6, rfl, hb60, hb6x, d6⟩ := HC6.out.intI hyi
            have d6 := ocell HON.out d6 hb6x (.inr (by omega))
            have hb6w : b6 < wr.heap.size := by omega
            have HSN := Lib.hid (show (L ++ allRow g a i j) ++ [((i : Int), l.getD j 0)] = L ++ allRow g a i (j + 1) by rw [HRW.out j _ hyi, List.append_assoc])
            have hll : (L ++ allRow g a i j).length ≤ 1000 := by rw [List.length_append]; omega
            clear hyi
            generalize l.getD j 0 = yy at *
            generalize L ++ allRow g a i j = LL at *
            go_wp2_with (at_builtin; (refine wpList_append1 cPr elPair rfl _ _ rfl gO _ LL ((i : Int), yy) _ 1 _ (by rfl) HROW2.out (by rfl) rfl rfl rfl (cPr_one _) (by omega) (by omega) (by omega) ?_); intro v' w4 hrow' hb4 hat4 hgr4)
            go_roundw
            case rel =>
              refine ⟨j + 1, by omega, by go_num, by rw [← HSN.out]; exact hrow', (HON.out.alloc _).grown hgr4 (fun b hb => HOB.out b hb), fun b hb => ?_⟩
              rcases hat4 with h1 | ⟨g1, h1, h2⟩
              · exact HOB.out b (by rw [← h1]; exact hb)
              · rw [h1] at hb
                injection hb with hb
                exact .inr (by omega)
            case measure => simp [intOf]; omega
          · obtain rfl : j = N := by omega
            rw [← HT1.out] at HROW2
            have HBX := Lib.hid (HBEL.out.trans ((HB6.out.mono (show gO ≤ wo.heap.size by omega)).trans (HON.out.below (Nat.le_refl _) (by omega))))
            go_wp2_with fail
            go_roundw
            case rel => exact ⟨i + 1, by omega, by go_num, HROW2.out, HBX.out⟩
            case measure => simp [intOf]; omega
      ·
        obtain rfl : i = g.vals.length := by omega
        have hown := Own.of_row (xs := allTo g a g.vals.length) HROW.out rfl rfl
        rw [← HR.out] at hown
        obtain ⟨A9, n9, c9, rfl⟩ := hown.shape
        have HO := Lib.hid (hown.mono (show w.heap.size ≤ gO by omega) (Nat.le_refl _))
        clear hown
        go_wp2_with fail
        go_ret
        exact ⟨_, rfl, HO.out, HBW.out⟩
end Go.Proofs.YtallglnmeeahiaaGreat
namespace Go.Proofs.YtallglnmeeahiaaGreat
set_option linter.unusedVariables false
set_option linter.unusedSimpArgs false
open Go.ChangeShapes Go.WideShapes Go.ChangeAt Go.RowKit
attribute [local go_sem] ext_cell ext_frozen ext_lt ext_lt1 ext_lt2 ext_lt3 ltn2 ltn3 ltn13 lts1 lts2 lts3
/-- the cursor's bytes do not lie in blocks whose cells are no bytes -/
theorem Cur.off {w w' : World} {b l r : Nat} (hc : Cur w b) (ho : Only l r w w') (hr : r ≤ b) (hn : ∀ q, l ≤ q → q < r → ∀ o (x : Int), w.cell? ⟨q, o, none⟩ ≠ some (.int .u8 x)) : Cur w' b := by
  obtain ⟨A, bs, c, i, h, h1, ⟨A', c', hv, hl, hm, hx⟩, h3⟩ := hc
  have hbl := h1.lt
  refine ⟨A, bs, c, i, h, h1.only ho (.inr hr), ⟨A', c', hv, hl, hm, fun k u hk => ?_⟩, h3⟩
  obtain ⟨q, o, hA, h0, hqb, hcc⟩ := hx k u hk
  have hqr : q < l ∨ r ≤ q := by
    rcases Nat.lt_or_ge q l with h5 | h5
    · exact .inl h5
    · rcases Nat.lt_or_ge q r with h6 | h6
      · exact absurd (hcc 0 _ rfl) (hn q h5 h6 _ _)
      · exact .inr h6
  exact ⟨q, o, hA, h0, hqb, fun j t ht => (ho.cell (p := ⟨q, o + k * 1 + j, none⟩) (by simp only; omega) (by simp only; omega)).trans (hcc j t ht)⟩
/-- a graph in the block gq, an automaton in aq, the cursor in b; the results' blocks r and r + 1 -/
structure GaR (b r gq aq : Nat) (w0 w : World) (gs es : Value) (g : Gr) (ac nx : Value) (a : Au) : Prop where
  res1 : Blk w r 27 #[.slice none 0 0, .slice none 0 0]
  res2 : Blk w (r + 1) 31 #[.int .i64 0, .slice none 0 0, .slice none 0 0]
  gbk : Blk w gq 27 #[gs, es]
  abk : Blk w aq 31 #[.int .i64 a.start, ac, nx]
  gv : GrV (b + 1) gq w (.agg #[gs, es]) g
  av : AuV (b + 1) gq w (.agg #[.int .i64 a.start, ac, nx]) a
  cur : Cur w b
  bel : Below w0.heap.size w0 w
  at0 : w0.heap.size = r
  e11 : g.edges.length ≤ 11
  ord : r + 1 < b ∧ b < gq ∧ gq < aq
section
variable {b r gq aq : Nat} {w0 w w' : World} {gs es : Value} {g : Gr} {ac nx : Value} {a : Au}
theorem GaR.step (h : GaR b r gq aq w0 w gs es g ac nx a) (ho : Only b (b + 1) w w') (hc : Cur w' b) : GaR b r gq aq w0 w' gs es g ac nx a := by
  have hd := h.ord
  have hq := h.abk.lt
  have h0 := h.at0
  exact ⟨h.res1.only ho (.inl (by omega)), h.res2.only ho (.inl (by omega)), h.gbk.only ho (.inr (by omega)), h.abk.only ho (.inr (by omega)), h.gv.only ho (by omega) (.inr (by omega)), h.av.only ho (by omega) (.inr (by omega)), hc, h.bel.trans (ho.below (B := w0.heap.size) (by omega) h.bel.size), h.at0, h.e11, hd⟩
theorem GaR.keep (h : GaR b r gq aq w0 w gs es g ac nx a) (hb : Below w.heap.size w w') : GaR b r gq aq w0 w' gs es g ac nx a := by
  have hd := h.ord
  have hq := h.abk.lt
  exact ⟨h.res1.keep hb, h.res2.keep hb, h.gbk.keep hb, h.abk.keep hb, h.gv.below hb (by omega), h.av.below hb (by omega), h.cur.keep hb, below_trans h.bel hb, h.at0, h.e11, hd⟩
theorem GaR.drew (h : GaR b r gq aq w0 w gs es g ac nx a) : GaR b r gq aq w0 w.drew gs es g ac nx a := h.keep (Below.refl w.heap.size w).drew
theorem GaR.grv (h : GaR b r gq aq w0 w gs es g ac nx a) : GrV 0 w.heap.size w (.agg #[gs, es]) g := h.gv.mono (Nat.zero_le _) (by have := h.ord; have := h.abk.lt; omega)
theorem GaR.auv (h : GaR b r gq aq w0 w gs es g ac nx a) : AuV 0 w.heap.size w (.agg #[.int .i64 a.start, ac, nx]) a := h.av.mono (Nat.zero_le _) (by have := h.ord; have := h.abk.lt; omega)
theorem GaR.fin (h : GaR b r gq aq w0 w gs es g ac nx a) (ho : Only r (r + 2) w w') :
    w0.heap.size ≤ b ∧ GrV (b + 1) w'.heap.size w' (.agg #[gs, es]) g ∧ g.edges.length ≤ 11 ∧ AuV (b + 1) w'.heap.size w' (.agg #[.int .i64 a.start, ac, nx]) a ∧ Cur w' b ∧ Below w0.heap.size w0 w' := by
  have hd := h.ord
  have h0 := h.at0
  have hq := h.abk.lt
  have hs := ho.size
  refine ⟨by omega, (h.gv.only ho (by omega) (.inr (by omega))).mono (Nat.le_refl _) (by omega), h.e11, (h.av.only ho (by omega) (.inr (by omega))).mono (Nat.le_refl _) (by omega), h.cur.off ho (by omega) (fun q h1 h2 o x => ?_), h.bel.trans (ho.below (B := w0.heap.size) (by omega) h.bel.size)⟩
  obtain rfl | rfl : q = r ∨ q = r + 1 := by omega
  · rw [h.res1.cell]
    rcases o with _ | _ | o <;> simp
  · rw [h.res2.cell]
    rcases o with _ | _ | _ | o <;> simp
/-- the same, the cursor forgotten -/
theorem GaR.fin0 (h : GaR b r gq aq w0 w gs es g ac nx a) (ho : Only r (r + 2) w w') :
    GrV 0 w'.heap.size w' (.agg #[gs, es]) g ∧ g.edges.length ≤ 11 ∧ AuV 0 w'.heap.size w' (.agg #[.int .i64 a.start, ac, nx]) a ∧ Below w0.heap.size w0 w' := by
  obtain ⟨-, h1, h2, h3, -, h4⟩ := h.fin ho
  exact ⟨h1.mono (Nat.zero_le _) (Nat.le_refl _), h2, h3.mono (Nat.zero_le _) (Nat.le_refl _), h4⟩
theorem GaR.blks (h : GaR b r gq aq w0 w gs es g ac nx a) (ho : Only r (r + 2) w w') : Blk w' gq 27 #[gs, es] ∧ Blk w' aq 31 #[.int .i64 a.start, ac, nx] := by
  have hd := h.ord
  exact ⟨h.gbk.only ho (.inr (by omega)), h.abk.only ho (.inr (by omega))⟩
/-- behind the first store -/
theorem GaR.put (h : GaR b r gq aq w0 w gs es g ac nx a) (v1 v2 : Value) :
    Only r (r + 2) w ((w.setCell ⟨r, 0, none⟩ v1).setCell ⟨r, 1, none⟩ v2) ∧ Blk ((w.setCell ⟨r, 0, none⟩ v1).setCell ⟨r, 1, none⟩ v2) (r + 1) 31 #[.int .i64 0, .slice none 0 0, .slice none 0 0] := by
  have ho := Only.put2 w r v1 v2
  exact ⟨((Only.refl r (r + 2) w).setCell (p := ⟨r, 0, none⟩) (.inl (by simp only; omega)) _).setCell (p := ⟨r, 1, none⟩) (.inl (by simp only; omega)) _, h.res2.only ho (.inr (by omega))⟩
end
def putGC (w : World) (r : Nat) (gs es st ac nx : Value) : World := ((((w.setCell ⟨r, 0, none⟩ gs).setCell ⟨r, 1, none⟩ es).setCell ⟨r + 1, 0, none⟩ st).setCell ⟨r + 1, 1, none⟩ ac).setCell ⟨r + 1, 2, none⟩ nx
theorem putGC_only (w : World) (r : Nat) (gs es st ac nx : Value) : Only r (r + 2) w (putGC w r gs es st ac nx) := (((((Only.refl r (r + 2) w).setCell (p := ⟨r, 0, none⟩) (.inl (by simp only; omega)) _).setCell (p := ⟨r, 1, none⟩) (.inl (by simp only; omega)) _).setCell (p := ⟨r + 1, 0, none⟩) (.inl (by simp only; omega)) _).setCell (p := ⟨r + 1, 1, none⟩) (.inl (by simp only; omega)) _).setCell (p := ⟨r + 1, 2, none⟩) (.inl (by simp only; omega)) _
theorem grT_len {lo hi : Nat} {w : World} {A1 A2 : Option Addr} {n1 c1 n2 c2 : Nat} {g : Gr} (h : GrV lo hi w (.agg #[.slice A1 n1 c1, .slice A2 n2 c2]) g) : n1 ≤ maxLen := by
  obtain ⟨vs, es, hv, ⟨A, c, rfl, hl, hm, -⟩, -⟩ := h
  simp at hv
  obtain ⟨⟨-, h2, -⟩, -⟩ := hv
  omega
theorem prAtT {lo hi : Nat} {w : World} {A : Option Addr} {n c : Nat} {xs : List Pr} (h : SlI lo hi w cPr 2 (.slice A n c) xs) {i : Nat} {x : Pr} (hx : xs[i]? = some x) :
    ∃ b o, A = some ⟨b, o, none⟩ ∧ lo ≤ b ∧ b < hi ∧ w.cell? ⟨b, o + i * 2, none⟩ = some (.int .i64 x.1) ∧ w.cell? ⟨b, o + i * 2 + 1, none⟩ = some (.int .i64 x.2) := by
  obtain ⟨A', c', hv, _, _, h3⟩ := h
  injection hv with h1 _ _
  subst h1
  obtain ⟨b, o, e, g1, g2, hc⟩ := h3 i x hx
  exact ⟨b, o, e, g1, g2, by simpa using hc 0 _ rfl, hc 1 _ rfl⟩
def DuoOut (w : World) (e : Ending) (w' : World) : Prop := ∃ b vg va g a x y, e = .returned (.tuple #[.pointer (some ⟨b, 0, none⟩), vg, va, .int .i64 x, .int .i64 y]) ∧ (w.heap.size ≤ b ∧ GrV (b + 1) w'.heap.size w' vg g ∧ g.edges.length ≤ 11 ∧ AuV (b + 1) w'.heap.size w' va a ∧ Cur w' b ∧ Below w.heap.size w w')
set_option maxHeartbeats 8000000 in
theorem l17Two_any (v : Value) (bs : List Int) (w : World) (hv : SlI 0 w.heap.size w cU 1 v bs) :
    Calls Tryz.prog 30 #[v] w (DuoOut w) := by
  have HV := Lib.hid hv
  have hb0 := ((Below.refl w.heap.size w).alloc (Nat.le_refl _) (.cells #[.slice none 0 0, .slice none 0 0] 27)).alloc (by simp) (.cells #[.int .i64 0, .slice none 0 0, .slice none 0 0] 31)
  have hb1 := (Blk.new w 27 #[.slice none 0 0, .slice none 0 0] _ rfl).alloc (.cells #[.int .i64 0, .slice none 0 0, .slice none 0 0] 31)
  have hb2 := Blk.new (w.alloc (.cells #[.slice none 0 0, .slice none 0 0] 27)) 31 #[.int .i64 0, .slice none 0 0, .slice none 0 0] (w.heap.size + 1) (by simp)
  have hs0 : ((w.alloc (.cells #[.slice none 0 0, .slice none 0 0] 27)).alloc (.cells #[.int .i64 0, .slice none 0 0, .slice none 0 0] 31)).heap.size = w.heap.size + 2 := by simp
  obtain ⟨A, n, c, rfl⟩ := hv.shape
  clear hv
  go_enter Tryz.func30, Tryz.ntmps30
  go_wp2_with fail
  refine (l1New_any _ bs _ ((HV.out.below hb0 (Nat.le_refl _)).mono (Nat.le_refl _) hb0.size)).mono ?_
  rintro e w1 ⟨b, rfl, hbl, hc1, hbw⟩
  have hr1 := hb1.keep hbw
  have hr2 := hb2.keep hbw
  have hb3 := below_trans hb0 hbw
  rw [hs0] at hbl
  clear hbw hb1 hb2 hb0 hs0 HV
  go_wp2_with fail
  refine (l14Pair_any b _ hc1).mono ?_
  rintro e w2 ⟨vg, va, g, a, rfl, hgv, he11, hav, hc2, ho2⟩
  have hlb := hc1.lt
  obtain ⟨A1, n1, c1, A2, n2, c2, rfl⟩ := hgv.shape
  obtain ⟨A3, n3, c3, A4, n4, c4, rfl⟩ := hav.shape
  have hn1 := grT_len hgv
  have hs2 := ho2.size
  have hal := ((Below.refl w2.heap.size w2).alloc (Nat.le_refl _) (.cells #[.slice A1 n1 c1, .slice A2 n2 c2] 27)).alloc (by simp) (.cells #[.int .i64 a.start, .slice A3 n3 c3, .slice A4 n4 c4] 31)
  have bg := (Blk.new w2 27 #[.slice A1 n1 c1, .slice A2 n2 c2] _ rfl).alloc (.cells #[.int .i64 a.start, .slice A3 n3 c3, .slice A4 n4 c4] 31)
  have ba := Blk.new (w2.alloc (.cells #[.slice A1 n1 c1, .slice A2 n2 c2] 27)) 31 #[.int .i64 a.start, .slice A3 n3 c3, .slice A4 n4 c4] (w2.heap.size + 1) (by simp)
  obtain ⟨gq, hgq⟩ : ∃ gq, gq = w2.heap.size := ⟨_, rfl⟩
  have HP := Lib.hid (show GaR b w.heap.size gq (gq + 1) w ((w2.alloc (.cells #[.slice A1 n1 c1, .slice A2 n2 c2] 27)).alloc (.cells #[.int .i64 a.start, .slice A3 n3 c3, .slice A4 n4 c4] 31)) _ _ g _ _ a from
    ⟨(hr1.only ho2 (.inl (by omega))).keep hal, (hr2.only ho2 (.inl (by omega))).keep hal, hgq ▸ bg, hgq ▸ ba, (hgv.below hal (Nat.le_refl _)).mono (by omega) (by omega), (hav.below hal (Nat.le_refl _)).mono (by omega) (by omega), hc2.keep hal, below_trans (hb3.trans (ho2.below (B := w.heap.size) (by omega) hb3.size)) hal, rfl, he11, by omega⟩)
  clear hal bg ba hgv hav hc2 ho2 hr1 hr2 hb3 hc1 hs2 he11
  go_upto_region 3 with fail
  rw [← hgq]
  generalize ((w2.alloc (.cells #[.slice A1 n1 c1, .slice A2 n2 c2] 27)).alloc (.cells #[.int .i64 a.start, .slice A3 n3 c3, .slice A4 n4 c4] 31)) = W at *
  clear hgq hlb
  have x0 : W.cell? ⟨gq, 0, none⟩ = some (.slice A1 n1 c1) := HP.out.gbk.cell 0
  have x1 : W.cell? ⟨gq, 1, none⟩ = some (.slice A2 n2 c2) := HP.out.gbk.cell 1
  have y0 : W.cell? ⟨gq + 1, 0, none⟩ = some (.int .i64 a.start) := HP.out.abk.cell 0
  have y1 : W.cell? ⟨gq + 1, 1, none⟩ = some (.slice A3 n3 c3) := HP.out.abk.cell 1
  have y2 : W.cell? ⟨gq + 1, 2, none⟩ = some (.slice A4 n4 c4) := HP.out.abk.cell 2
  go_wp2_with fail
  refine (l4Node_any b _ _ _ _ _ _ _ HP.out.cur hn1).mono ?_
  rintro e w4 ⟨x, rfl, hc4, ho4⟩
  have HP4 := Lib.hid (HP.out.step ho4 hc4)
  clear ho4 hc4 HP x0 x1 y0 y1 y2
  have x0 : w4.cell? ⟨gq, 0, none⟩ = some (.slice A1 n1 c1) := HP4.out.gbk.cell 0
  have x1 : w4.cell? ⟨gq, 1, none⟩ = some (.slice A2 n2 c2) := HP4.out.gbk.cell 1
  have y0 : w4.cell? ⟨gq + 1, 0, none⟩ = some (.int .i64 a.start) := HP4.out.abk.cell 0
  have y1 : w4.cell? ⟨gq + 1, 1, none⟩ = some (.slice A3 n3 c3) := HP4.out.abk.cell 1
  have y2 : w4.cell? ⟨gq + 1, 2, none⟩ = some (.slice A4 n4 c4) := HP4.out.abk.cell 2
  go_wp2_with fail
  refine (l4Node_any b _ _ _ _ _ _ _ HP4.out.cur hn1).mono ?_
  rintro e w5 ⟨y, rfl, hc5, ho5⟩
  have HP5 := Lib.hid (HP4.out.step ho5 hc5)
  clear ho5 hc5 HP4 x0 x1 y0 y1 y2
  have x0 : w5.cell? ⟨gq, 0, none⟩ = some (.slice A1 n1 c1) := HP5.out.gbk.cell 0
  have x1 : w5.cell? ⟨gq, 1, none⟩ = some (.slice A2 n2 c2) := HP5.out.gbk.cell 1
  have y0 : w5.cell? ⟨gq + 1, 0, none⟩ = some (.int .i64 a.start) := HP5.out.abk.cell 0
  have y1 : w5.cell? ⟨gq + 1, 1, none⟩ = some (.slice A3 n3 c3) := HP5.out.abk.cell 1
  have y2 : w5.cell? ⟨gq + 1, 2, none⟩ = some (.slice A4 n4 c4) := HP5.out.abk.cell 2
  go_wp2_with fail
  refine (specAllAnswers _ _ g a _ HP5.out.grv HP5.out.auv).mono ?_
  rintro e w6 ⟨vl, rfl, hol, hb6⟩
  have HP6 := Lib.hid (HP5.out.keep hb6)
  have hblt : b < w5.heap.size := by have := HP5.out.ord; have := HP5.out.abk.lt; omega
  have haq : gq + 1 < w5.heap.size := HP5.out.abk.lt
  obtain ⟨A6, c6, rfl, hl6, hm6, -⟩ := hol.form cPr_len
  have hsl := hol.sl cPr_len
  obtain ⟨N, hN⟩ : ∃ N, N = (allL g a).length := ⟨_, rfl⟩
  rw [← hN] at hl6 hsl ⊢
  have HL := Lib.hid hsl
  have HN := Lib.hid hN
  clear hol hsl hb6 HP5 hN x0 x1 y0 y1 y2
  by_cases h0 : N = 0
  · subst h0
    have x0 : w6.cell? ⟨gq, 0, none⟩ = some (.slice A1 n1 c1) := HP6.out.gbk.cell 0
    have x1 : w6.cell? ⟨gq, 1, none⟩ = some (.slice A2 n2 c2) := HP6.out.gbk.cell 1
    have y0 : w6.cell? ⟨gq + 1, 0, none⟩ = some (.int .i64 a.start) := HP6.out.abk.cell 0
    have y1 : w6.cell? ⟨gq + 1, 1, none⟩ = some (.slice A3 n3 c3) := HP6.out.abk.cell 1
    have y2 : w6.cell? ⟨gq + 1, 2, none⟩ = some (.slice A4 n4 c4) := HP6.out.abk.cell 2
    have z0 : w6.cell? ⟨w.heap.size, 0, none⟩ = some (.slice none 0 0) := HP6.out.res1.cell 0
    have z1 : w6.cell? ⟨w.heap.size, 1, none⟩ = some (.slice none 0 0) := HP6.out.res1.cell 1
    have z2 : w6.cell? ⟨w.heap.size + 1, 0, none⟩ = some (.int .i64 0) := HP6.out.res2.cell 0
    have z3 : w6.cell? ⟨w.heap.size + 1, 1, none⟩ = some (.slice none 0 0) := HP6.out.res2.cell 1
    have z4 : w6.cell? ⟨w.heap.size + 1, 2, none⟩ = some (.slice none 0 0) := HP6.out.res2.cell 2
    have v0 := HP6.out.res1.frozen 0
    have v1 := HP6.out.res1.frozen 1
    have v2 := HP6.out.res2.frozen 0
    have v3 := HP6.out.res2.frozen 1
    have v4 := HP6.out.res2.frozen 2
    have hlr := HP6.out.res1.lt
    have hls := HP6.out.res2.lt
    have hord := HP6.out.ord
    have q1 : ¬ gq + 1 = w.heap.size := by omega
    have q2 : ¬ w.heap.size = gq + 1 := by omega
    have q3 : ¬ gq + 1 = w.heap.size + 1 := by omega
    have q4 : ¬ w.heap.size + 1 = gq + 1 := by omega
    have q5 : ¬ gq = w.heap.size := by omega
    have q6 : ¬ w.heap.size = gq := by omega
    have q7 : ¬ gq = w.heap.size + 1 := by omega
    have q8 : ¬ w.heap.size + 1 = gq := by omega
    clear hord
    go_wp2_with fail
    go_region
    have HD := HP6.out.fin (putGA_only w6 w.heap.size (.slice A1 n1 c1) (.slice A2 n2 c2) (.int .i64 a.start) (.slice A3 n3 c3) (.slice A4 n4 c4))
    go_wp2_with fail
    refine bodyPost_ret (v := .tuple #[.pointer (some ⟨b, 0, none⟩), .agg #[.slice A1 n1 c1, .slice A2 n2 c2], .agg #[.int .i64 a.start, .slice A3 n3 c3, .slice A4 n4 c4], .int .i64 x, .int .i64 y]) (by simp [results, Tryz.results30, go_sem, z0, z1, z2, z3, z4, v0, v1, v2, v3, v4]) rfl ⟨_, _, _, _, _, _, _, rfl, HD⟩
  · have hN1 : (0 : Int) < (N : Int) := by omega
    go_wp2_with fail
    refine (l1Once_any b 3 _ HP6.out.cur).mono ?_
    rintro e w7 ⟨t, rfl, hc7, ho7⟩
    have HP7 := Lib.hid (HP6.out.step ho7 hc7)
    have HL7 := Lib.hid (HL.out.only ho7 (Nat.le_refl _) (.inr hblt))
    have hs7 := ho7.size
    clear HP6 hc7 ho7 HL
    cases t
    · go_wp2_with fail
      refine (l1Below_any b _ _ HP7.out.cur).mono ?_
      rintro e w8 ⟨i, rfl, ⟨hi0, -, hi1⟩, hc8, ho8⟩
      have HP8 := Lib.hid (HP7.out.step ho8 hc8)
      have HL8 := Lib.hid (HL7.out.only ho8 hs7 (.inr hblt))
      have hs8 := ho8.size
      have hi1 := hi1 hN1
      obtain ⟨i, rfl⟩ := Int.eq_ofNat_of_zero_le hi0
      clear HP7 HL7 hc8 ho8 hi0
      have hlt : i < (allL g a).length := by rw [← HN.out]; omega
      obtain ⟨E, hE⟩ : ∃ E, E = (allL g a)[i] := ⟨_, rfl⟩
      have hei : (allL g a)[i]? = some E := by rw [hE]; exact List.getElem?_eq_getElem hlt
      clear hE hlt
      obtain ⟨b6, o6, rfl, hlo6, hb6, e0, e1⟩ := prAtT HL8.out hei
      obtain ⟨e1v, e2v⟩ := E
      simp only at e0 e1
      clear hei
      have hal := (Below.refl w8.heap.size w8).alloc (Nat.le_refl _) (.cells #[.int .i64 e1v, .int .i64 e2v] 83)
      have HP9 := Lib.hid (HP8.out.keep hal)
      have bp := Blk.new w8 83 #[.int .i64 e1v, .int .i64 e2v] _ rfl
      obtain ⟨pq, hpq⟩ : ∃ pq, pq = w8.heap.size := ⟨_, rfl⟩
      have hpl : gq + 1 < pq := by omega
      have hpl2 : w.heap.size + 1 < pq := by have := HP8.out.ord; omega
      rw [← hpq] at bp
      clear hal HP8
      go_upto_region 8 with fail
      rw [← hpq]
      generalize (w8.alloc (.cells #[.int .i64 e1v, .int .i64 e2v] 83)) = W9 at *
      clear hpq e0 e1
      have e0 : W9.cell? ⟨pq, 0, none⟩ = some (.int .i64 e1v) := bp.cell 0
      have e1 : W9.cell? ⟨pq, 1, none⟩ = some (.int .i64 e2v) := bp.cell 1
      have r1 : ¬ pq = w.heap.size := by omega
      have r2 : ¬ w.heap.size = pq := by omega
      have r3 : ¬ pq = w.heap.size + 1 := by omega
      have r4 : ¬ w.heap.size + 1 = pq := by omega
      have r5 : ¬ pq = gq := by omega
      have r6 : ¬ gq = pq := by omega
      clear bp hpl hpl2
      have x0 : W9.cell? ⟨gq, 0, none⟩ = some (.slice A1 n1 c1) := HP9.out.gbk.cell 0
      have x1 : W9.cell? ⟨gq, 1, none⟩ = some (.slice A2 n2 c2) := HP9.out.gbk.cell 1
      have y0 : W9.cell? ⟨gq + 1, 0, none⟩ = some (.int .i64 a.start) := HP9.out.abk.cell 0
      have y1 : W9.cell? ⟨gq + 1, 1, none⟩ = some (.slice A3 n3 c3) := HP9.out.abk.cell 1
      have y2 : W9.cell? ⟨gq + 1, 2, none⟩ = some (.slice A4 n4 c4) := HP9.out.abk.cell 2
      have z0 : W9.cell? ⟨w.heap.size, 0, none⟩ = some (.slice none 0 0) := HP9.out.res1.cell 0
      have z1 : W9.cell? ⟨w.heap.size, 1, none⟩ = some (.slice none 0 0) := HP9.out.res1.cell 1
      have z2 : W9.cell? ⟨w.heap.size + 1, 0, none⟩ = some (.int .i64 0) := HP9.out.res2.cell 0
      have z3 : W9.cell? ⟨w.heap.size + 1, 1, none⟩ = some (.slice none 0 0) := HP9.out.res2.cell 1
      have z4 : W9.cell? ⟨w.heap.size + 1, 2, none⟩ = some (.slice none 0 0) := HP9.out.res2.cell 2
      have v0 := HP9.out.res1.frozen 0
      have v1 := HP9.out.res1.frozen 1
      have v2 := HP9.out.res2.frozen 0
      have v3 := HP9.out.res2.frozen 1
      have v4 := HP9.out.res2.frozen 2
      have hlr := HP9.out.res1.lt
      have hls := HP9.out.res2.lt
      have hord := HP9.out.ord
      have q1 : ¬ gq + 1 = w.heap.size := by omega
      have q2 : ¬ w.heap.size = gq + 1 := by omega
      have q3 : ¬ gq + 1 = w.heap.size + 1 := by omega
      have q4 : ¬ w.heap.size + 1 = gq + 1 := by omega
      have q5 : ¬ gq = w.heap.size := by omega
      have q6 : ¬ w.heap.size = gq := by omega
      have q7 : ¬ gq = w.heap.size + 1 := by omega
      have q8 : ¬ w.heap.size + 1 = gq := by omega
      clear hord
      go_wp2_with fail
      go_region
      have HD := HP9.out.fin (putGA_only W9 w.heap.size (.slice A1 n1 c1) (.slice A2 n2 c2) (.int .i64 a.start) (.slice A3 n3 c3) (.slice A4 n4 c4))
      go_wp2_with fail
      refine bodyPost_ret (v := .tuple #[.pointer (some ⟨b, 0, none⟩), .agg #[.slice A1 n1 c1, .slice A2 n2 c2], .agg #[.int .i64 a.start, .slice A3 n3 c3, .slice A4 n4 c4], .int .i64 e1v, .int .i64 e2v]) (by simp [results, Tryz.results30, go_sem, z0, z1, z2, z3, z4, v0, v1, v2, v3, v4]) rfl ⟨_, _, _, _, _, _, _, rfl, HD⟩
    · skip
      have x0 : w7.cell? ⟨gq, 0, none⟩ = some (.slice A1 n1 c1) := HP7.out.gbk.cell 0
      have x1 : w7.cell? ⟨gq, 1, none⟩ = some (.slice A2 n2 c2) := HP7.out.gbk.cell 1
      have y0 : w7.cell? ⟨gq + 1, 0, none⟩ = some (.int .i64 a.start) := HP7.out.abk.cell 0
      have y1 : w7.cell? ⟨gq + 1, 1, none⟩ = some (.slice A3 n3 c3) := HP7.out.abk.cell 1
      have y2 : w7.cell? ⟨gq + 1, 2, none⟩ = some (.slice A4 n4 c4) := HP7.out.abk.cell 2
      have z0 : w7.cell? ⟨w.heap.size, 0, none⟩ = some (.slice none 0 0) := HP7.out.res1.cell 0
      have z1 : w7.cell? ⟨w.heap.size, 1, none⟩ = some (.slice none 0 0) := HP7.out.res1.cell 1
      have z2 : w7.cell? ⟨w.heap.size + 1, 0, none⟩ = some (.int .i64 0) := HP7.out.res2.cell 0
      have z3 : w7.cell? ⟨w.heap.size + 1, 1, none⟩ = some (.slice none 0 0) := HP7.out.res2.cell 1
      have z4 : w7.cell? ⟨w.heap.size + 1, 2, none⟩ = some (.slice none 0 0) := HP7.out.res2.cell 2
      have v0 := HP7.out.res1.frozen 0
      have v1 := HP7.out.res1.frozen 1
      have v2 := HP7.out.res2.frozen 0
      have v3 := HP7.out.res2.frozen 1
      have v4 := HP7.out.res2.frozen 2
      have hlr := HP7.out.res1.lt
      have hls := HP7.out.res2.lt
      have hord := HP7.out.ord
      have q1 : ¬ gq + 1 = w.heap.size := by omega
      have q2 : ¬ w.heap.size = gq + 1 := by omega
      have q3 : ¬ gq + 1 = w.heap.size + 1 := by omega
      have q4 : ¬ w.heap.size + 1 = gq + 1 := by omega
      have q5 : ¬ gq = w.heap.size := by omega
      have q6 : ¬ w.heap.size = gq := by omega
      have q7 : ¬ gq = w.heap.size + 1 := by omega
      have q8 : ¬ w.heap.size + 1 = gq := by omega
      clear hord
      go_wp2_with fail
      go_region
      have HD := HP7.out.fin (putGA_only w7 w.heap.size (.slice A1 n1 c1) (.slice A2 n2 c2) (.int .i64 a.start) (.slice A3 n3 c3) (.slice A4 n4 c4))
      go_wp2_with fail
      refine bodyPost_ret (v := .tuple #[.pointer (some ⟨b, 0, none⟩), .agg #[.slice A1 n1 c1, .slice A2 n2 c2], .agg #[.int .i64 a.start, .slice A3 n3 c3, .slice A4 n4 c4], .int .i64 x, .int .i64 y]) (by simp [results, Tryz.results30, go_sem, z0, z1, z2, z3, z4, v0, v1, v2, v3, v4]) rfl ⟨_, _, _, _, _, _, _, rfl, HD⟩
end Go.Proofs.YtallglnmeeahiaaGreat
