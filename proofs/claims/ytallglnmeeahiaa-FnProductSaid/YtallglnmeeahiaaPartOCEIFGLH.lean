/- Parts of the proof, joined into one text: FromI, DistS, Pick, ProdQ, StpL, HeldG, Rec, Seat. -/
import Derived.Test.YtallglnmeeahiaaPartBAMODNBN
import Derived.Test.YtallglnmeeahiaaPartBNGDPPFA
import Derived.Test.YtallglnmeeahiaaPartNBHFPOFO
import Derived.Test.YtallglnmeeahiaaPartNBJMBDKF
import Derived.Test.YtallglnmeeahiaaPartOFPIKNKI
import Derived.Test.YtallglnmeeahiaaPartGEEOALPK
import Derived.JoinedOf
import Derived.Test.YtallglnmeeahiaaRows
/- The program's DistancesFrom. -/
namespace Go.Proofs.Ytallglnmeeahiaa
set_option linter.unusedVariables false
set_option linter.unusedSimpArgs false
open Go.ChangeShapes Go.WideShapes Go.ChangeAt Go.RowKit
attribute [local go_sem] ext_cell ext_frozen ext_lt ext_lt1 ext_lt2 ext_lt3 ltn2 ltn3 ltn13 lts1 lts2 lts3

theorem lit_nat (w : World) (e : TypeId) (x : Nat) : SlE (w.alloc (.cells #[.int .i64 (x : Int)] e)) cN 1 (.slice (some ⟨w.heap.size, 0, none⟩) 1 1) [x] := by
  have h := Own.of_row (xs := [x]) (E := cN) (World.ownsRow_lit (base := 0) (e := e) (size := 1) w #[.int .i64 (x : Int)] 1 (Nat.zero_le _) (by decide) rfl) rfl rfl
  exact (h.sl cN_len).all (Nat.le_refl _)
set_option maxHeartbeats 4000000 in
set_option maxRecDepth 100000 in
theorem implDistancesFrom (vg va : Value) (g : Gr) (a : Au) (x : Int) (w : World) (hgv : GrV 0 w.heap.size w vg g) (hav : AuV 0 w.heap.size w va a) :
    Calls Try.prog 32 #[vg, va, .int .i64 x] w fun e w' => ∃ v', e = .returned v' ∧ Own w.heap.size w'.heap.size w' 3 cI 1 v' (distFrom g a x) ∧ Below w.heap.size w w' := by
  have hgv0 := hgv
  have hav0 := hav
  obtain ⟨A1, n1, c1, A2, n2, c2, rfl⟩ := hgv.shape
  obtain ⟨ac, nx, rfl, hac, hnx⟩ := hav
  obtain ⟨A3, c3, rfl, -, -, -⟩ := SlE.form hac
  obtain ⟨A4, n4, c4, rfl⟩ := hnx.shape
  have hb0 : Below w.heap.size w ((w.alloc (.cells #[.slice A1 n1 c1, .slice A2 n2 c2] 38)).alloc (.cells #[.int .i64 a.start, .slice A3 a.accept.length c3, .slice A4 n4 c4] 27)) := ((Below.refl _ _).alloc (Nat.le_refl _) _).alloc (by simp) _
  have hb1 := hb0.alloc hb0.size (.cells #[.int .i64 x] 3)
  have hst : SlE (((w.alloc (.cells #[.slice A1 n1 c1, .slice A2 n2 c2] 38)).alloc (.cells #[.int .i64 a.start, .slice A3 a.accept.length c3, .slice A4 n4 c4] 27)).alloc (.cells #[.int .i64 x] 3)) cI 1 (.slice (some ⟨w.heap.size + 1 + 1, 0, none⟩) 1 1) [x] := by
    have h := lit_sl ((w.alloc (.cells #[.slice A1 n1 c1, .slice A2 n2 c2] 38)).alloc (.cells #[.int .i64 a.start, .slice A3 a.accept.length c3, .slice A4 n4 c4] 27)) 3 [x] (by unfold maxLen; simp)
    simpa using h
  have hbo := bothOk_any _ _ _ g a [x] _ (hgv0.keep hb1) (hav0.keep hb1) hst
  have HBO := Lib.hid hbo
  have HGV := Lib.hid hgv0
  have HAV := Lib.hid hav0
  clear hgv hac hnx hgv0 hav0 hbo hst
  cases hk : ([x].all (fun s => wi s 0 ((g.vals.length : Int) - 1)) && (grOk g && auOk a)) with
  | false =>
    rw [hk] at HBO
    have hfin : distFrom g a x = [] := by unfold distFrom; rw [if_neg]; simpa using hk
    have HF := Lib.hid hfin
    clear hk hfin
    go_enter Try.func32, Try.ntmps32
    go_wp2_with fail
    refine HBO.out.mono ?_
    rintro e w1 ⟨rfl, hb2⟩
    go_wp2_with fail
    go_ret
    exact ⟨_, rfl, by rw [HF.out]; exact Own.nil _ _ _ _ _ _, below_trans hb1 hb2⟩
  | true =>
    rw [hk] at HBO
    simp only [List.all_cons, List.all_nil, Bool.and_true, Bool.and_eq_true, wi_iff] at hk
    obtain ⟨⟨hx0, hx1⟩, hgo, hao⟩ := hk
    have hgo2 := grOk_iff.1 hgo
    obtain ⟨x, rfl⟩ := Int.eq_ofNat_of_zero_le hx0
    have hxl : x < g.vals.length := by omega
    obtain ⟨N, hN⟩ : ∃ N, N = g.vals.length * a.accept.length := ⟨_, rfl⟩
    have hn5 := hgo2.n5
    have hn1 := hgo2.n1
    obtain ⟨⟨hm1, hm12⟩, ⟨hst0, hst1⟩, -, -⟩ := auOk_iff.1 hao
    have hN60 : N ≤ 60 := by rw [hN]; have := Nat.mul_le_mul hn5 hm12; omega
    have hN1 : 1 ≤ N := by rw [hN]; exact Nat.mul_pos hn1 hm1
    obtain ⟨s, hs⟩ : ∃ s : Nat, a.start = (s : Int) := ⟨a.start.toNat, by omega⟩
    obtain ⟨xn, hxn⟩ : ∃ xn, xn = x * a.accept.length := ⟨_, rfl⟩
    have hxn2 : xn + a.accept.length ≤ N := by rw [hxn, hN]; have := Nat.mul_le_mul_right a.accept.length (show x + 1 ≤ g.vals.length by omega); rw [Nat.succ_mul] at this; exact this
    obtain ⟨S0, hS0⟩ : ∃ S0, S0 = xn + s := ⟨_, rfl⟩
    have hS0N : S0 < N := by omega
    have m1' : (x : Int) * (a.accept.length : Int) = (xn : Int) := by rw [hxn, Int.natCast_mul]
    have m1 : IntKind.i64.wrap ((x : Int) * (a.accept.length : Int)) = (xn : Int) := by rw [m1']; exact IntWalk.i64_in _ (by omega)
    have m2' : (xn : Int) + a.start = (S0 : Int) := by omega
    have m2 : IntKind.i64.wrap ((xn : Int) + a.start) = (S0 : Int) := by rw [m2']; exact IntWalk.i64_in _ (by omega)
    have m3 : IntKind.i64.wrap (xn : Int) = (xn : Int) := IntWalk.i64_in _ (by omega)
    have m4 : IntKind.i64.wrap (S0 : Int) = (S0 : Int) := IntWalk.i64_in _ (by omega)
    have hfin : distFrom g a (x : Int) = spreadR N (nextI g a) [S0] := by
      rw [distFrom, if_pos (by simp only [Bool.and_eq_true, wi_iff]; exact ⟨by omega, hgo, hao⟩), Int.toNat_natCast, ← hxn, ← hN, hs, Int.toNat_natCast, ← hS0]
    have hnl : ∀ i, i < N → ∀ k ∈ nextI g a i, k < N := fun i _ k hk => by rw [hN]; exact nextV_lt hgo2 hao hk
    have hfl : ∀ i ∈ [S0], i < N := by intro i hi; rw [List.mem_singleton] at hi; omega
    have HN := Lib.hid hN
    have HNL := Lib.hid hnl
    have HFL := Lib.hid hfl
    have HGO := Lib.hid hgo2
    have HAO := Lib.hid hao
    have HF := Lib.hid hfin
    have M1 := Lib.hid m1
    have M1' := Lib.hid m1'
    have M2 := Lib.hid m2
    have M2' := Lib.hid m2'
    have M3 := Lib.hid m3
    have M4 := Lib.hid m4
    clear hN hnl hfl hgo hgo2 hao hfin hx0 hx1 hs hxn hS0 m1 m1' m2 m2' m3 m4 hst0 hst1
    go_enter Try.func32, Try.ntmps32
    go_wp2_with fail
    refine HBO.out.mono ?_
    rintro e w1 ⟨rfl, hb2⟩
    have hb3 := below_trans hb1 hb2
    have b0 := (((Blk.new w 38 #[.slice A1 n1 c1, .slice A2 n2 c2] w.heap.size rfl).alloc (.cells #[.int .i64 a.start, .slice A3 a.accept.length c3, .slice A4 n4 c4] 27)).alloc (.cells #[.int .i64 (x : Int)] 3)).keep hb2
    have b1 := ((Blk.new (w.alloc (.cells #[.slice A1 n1 c1, .slice A2 n2 c2] 38)) 27 #[.int .i64 a.start, .slice A3 a.accept.length c3, .slice A4 n4 c4] (w.heap.size + 1) (by simp)).alloc (.cells #[.int .i64 (x : Int)] 3)).keep hb2
    have x0 : w1.cell? ⟨w.heap.size, 0, none⟩ = some (.slice A1 n1 c1) := by exact b0.cell 0
    have x1 : w1.cell? ⟨w.heap.size, 1, none⟩ = some (.slice A2 n2 c2) := by exact b0.cell 1
    have y0 : w1.cell? ⟨w.heap.size + 1, 0, none⟩ = some (.int .i64 a.start) := by exact b1.cell 0
    have y1 : w1.cell? ⟨w.heap.size + 1, 1, none⟩ = some (.slice A3 a.accept.length c3) := by exact b1.cell 1
    have y2 : w1.cell? ⟨w.heap.size + 1, 2, none⟩ = some (.slice A4 n4 c4) := by exact b1.cell 2
    clear hb0 hb1 hb2 b0 b1 HBO
    go_wp2_with fail
    have m1 := M1.out
    have m1' := M1'.out
    have m2 := M2.out
    have m2' := M2'.out
    have m3 := M3.out
    have m4 := M4.out
    refine F_start 13 (fun w' => w'.cell? ⟨w.heap.size, 0, none⟩ = some (.slice A1 n1 c1) ∧ w'.cell? ⟨w.heap.size, 1, none⟩ = some (.slice A2 n2 c2) ∧ w'.cell? ⟨w.heap.size + 1, 0, none⟩ = some (.int .i64 a.start) ∧ w'.cell? ⟨w.heap.size + 1, 1, none⟩ = some (.slice A3 a.accept.length c3) ∧ w'.cell? ⟨w.heap.size + 1, 2, none⟩ = some (.slice A4 n4 c4)) (by kernel_rfl) (by exact ⟨x0, x1, y0, y1, y2⟩) (fun hS inv => ?_)
    refine F_take (i := 0) (v := ?_) rfl (by kernel_rfl) (by kernel_rfl) (by kernel_rfl) (fun _ _ _ h => h) inv (Or.inl ⟨by rfl, ?_⟩) (by assumption) (fun invn => ?_)
    rotate_left
    · (intro w hSw; (try dsimp only at hSw); go_simp; try with_reducible rfl)
    try simp only [List.getElem_toArray, List.getElem_cons_zero, List.getElem_cons_succ, Act.put, List.setIfInBounds_toArray, List.set_cons_zero, List.set_cons_succ]
    clear inv
    have inv := invn
    clear invn
    refine F_take (i := 1) (v := ?_) rfl (by kernel_rfl) (by kernel_rfl) (by kernel_rfl) (fun _ _ _ h => h) inv (Or.inl ⟨by rfl, ?_⟩) (by assumption) (fun invn => ?_)
    rotate_left
    · (intro w hSw; (try dsimp only at hSw); go_simp; try with_reducible rfl)
    try simp only [List.getElem_toArray, List.getElem_cons_zero, List.getElem_cons_succ, Act.put, List.setIfInBounds_toArray, List.set_cons_zero, List.set_cons_succ]
    clear inv
    have inv := invn
    clear invn
    refine F_take (i := 3) (v := ?_) rfl (by kernel_rfl) (by kernel_rfl) (by kernel_rfl) (fun _ _ _ h => h) inv (Or.inl ⟨by rfl, ?_⟩) (by assumption) (fun invn => ?_)
    rotate_left
    · (intro w hSw; (try dsimp only at hSw); go_simp; try with_reducible rfl)
    try simp only [List.getElem_toArray, List.getElem_cons_zero, List.getElem_cons_succ, Act.put, List.setIfInBounds_toArray, List.set_cons_zero, List.set_cons_succ]
    clear inv
    have inv := invn
    clear invn
    refine F_take (i := 4) (v := ?_) rfl (by kernel_rfl) (by kernel_rfl) (by kernel_rfl) (fun _ _ _ h => h) inv (Or.inl ⟨by rfl, ?_⟩) (by assumption) (fun invn => ?_)
    rotate_left
    · (intro w hSw; (try dsimp only at hSw); go_simp; try with_reducible rfl)
    try simp only [List.getElem_toArray, List.getElem_cons_zero, List.getElem_cons_succ, Act.put, List.setIfInBounds_toArray, List.set_cons_zero, List.set_cons_succ]
    clear inv
    have inv := invn
    clear invn
    refine F_take (i := 5) (v := ?_) rfl (by kernel_rfl) (by kernel_rfl) (by kernel_rfl) (fun _ _ _ h => h) inv (Or.inl ⟨by rfl, ?_⟩) (by assumption) (fun invn => ?_)
    rotate_left
    · (intro w hSw; (try dsimp only at hSw); go_simp; try with_reducible rfl)
    try simp only [List.getElem_toArray, List.getElem_cons_zero, List.getElem_cons_succ, Act.put, List.setIfInBounds_toArray, List.set_cons_zero, List.set_cons_succ]
    clear inv
    have inv := invn
    clear invn
    refine F_take (i := 6) (v := ?_) rfl (by kernel_rfl) (by kernel_rfl) (by kernel_rfl) (fun _ _ _ h => h) inv (Or.inl ⟨by rfl, ?_⟩) (by assumption) (fun invn => ?_)
    rotate_left
    · (intro w hSw; (try dsimp only at hSw); go_simp; try with_reducible rfl)
    try simp only [List.getElem_toArray, List.getElem_cons_zero, List.getElem_cons_succ, Act.put, List.setIfInBounds_toArray, List.set_cons_zero, List.set_cons_succ]
    clear inv
    have inv := invn
    clear invn
    refine F_take (i := 7) (v := ?_) rfl (by kernel_rfl) (by kernel_rfl) (by kernel_rfl) (fun _ _ _ h => h) inv (Or.inl ⟨by rfl, ?_⟩) (by assumption) (fun invn => ?_)
    rotate_left
    · (intro w hSw; (try dsimp only at hSw); go_simp; try with_reducible rfl)
    try simp only [List.getElem_toArray, List.getElem_cons_zero, List.getElem_cons_succ, Act.put, List.setIfInBounds_toArray, List.set_cons_zero, List.set_cons_succ]
    clear inv
    have inv := invn
    clear invn
    refine F_take (i := 8) (v := ?_) rfl (by kernel_rfl) (by kernel_rfl) (by kernel_rfl) (fun _ _ _ h => h) inv (Or.inl ⟨by rfl, ?_⟩) (by assumption) (fun invn => ?_)
    rotate_left
    · (intro w hSw; (try dsimp only at hSw); go_simp; try with_reducible rfl)
    try simp only [List.getElem_toArray, List.getElem_cons_zero, List.getElem_cons_succ, Act.put, List.setIfInBounds_toArray, List.set_cons_zero, List.set_cons_succ]
    clear inv
    have inv := invn
    clear invn
    refine F_take (i := 9) (v := ?_) rfl (by kernel_rfl) (by kernel_rfl) (by kernel_rfl) (fun _ _ _ h => h) inv (Or.inl ⟨by rfl, ?_⟩) (by assumption) (fun invn => ?_)
    rotate_left
    · (intro w hSw; (try dsimp only at hSw); go_simp; try with_reducible rfl)
    try simp only [List.getElem_toArray, List.getElem_cons_zero, List.getElem_cons_succ, Act.put, List.setIfInBounds_toArray, List.set_cons_zero, List.set_cons_succ]
    clear inv
    have inv := invn
    clear invn
    refine F_take (i := 10) (v := ?_) rfl (by kernel_rfl) (by kernel_rfl) (by kernel_rfl) (fun _ _ _ h => h) inv (Or.inl ⟨by rfl, ?_⟩) (by assumption) (fun invn => ?_)
    rotate_left
    · (intro w hSw; (try dsimp only at hSw); go_simp; try with_reducible rfl)
    try simp only [List.getElem_toArray, List.getElem_cons_zero, List.getElem_cons_succ, Act.put, List.setIfInBounds_toArray, List.set_cons_zero, List.set_cons_succ]
    clear inv
    have inv := invn
    clear invn
    refine F_two (i := 2) (j := 11) (by kernel_rfl) rfl rfl rfl rfl (by omega) inv (fun K hK => ?_) (fun K hK => ?_)
    all_goals (try simp only [List.getElem_toArray, List.getElem_cons_zero, List.getElem_cons_succ])
    · go_simp
      refine (nextVertices_any _ _ g a _ (GrV.keep (w' := w1.drew) HGV.out hb3.drew) (AuV.keep (w' := w1.drew) HAV.out hb3.drew) HGO.out HAO.out).mono ?_
      rintro e wA ⟨vA, rfl, hsA, hbA⟩
      rw [← HN.out] at hsA
      refine hK.out _ _ (kB5 hbA hS) (fun hSn invn => ?_)
      try simp only [List.getElem_toArray, List.getElem_cons_zero, List.getElem_cons_succ, Act.put, List.setIfInBounds_toArray, List.set_cons_zero, List.set_cons_succ]
      clear hK K inv hS
      have inv := invn
      have hS := hSn
      clear invn hSn
      refine F_one (i := 11) (by kernel_rfl) rfl rfl (by omega) inv (fun K hK => ?_)
      try simp only [List.getElem_toArray, List.getElem_cons_zero, List.getElem_cons_succ]
      go_simp
      refine hK.out _ _ (kA5 _ hS) (fun hSn invn => ?_)
      try simp only [List.getElem_toArray, List.getElem_cons_zero, List.getElem_cons_succ, Act.put, List.setIfInBounds_toArray, List.set_cons_zero, List.set_cons_succ]
      clear hK K inv hS
      have inv := invn
      have hS := hSn
      clear invn hSn
      refine F_one (i := 12) (by kernel_rfl) rfl rfl (by omega) inv (fun K hK => ?_)
      try simp only [List.getElem_toArray, List.getElem_cons_zero, List.getElem_cons_succ]
      go_simp
      refine (spread_any vA _ N (nextI g a) [S0] _ ((hsA.mono (Nat.zero_le _) (Nat.le_refl _)).keep ((Below.refl _ _).alloc (Nat.le_refl _) _)) (lit_nat wA _ S0) hN1 hN60 (by simp) HFL.out HNL.out).mono ?_
      rintro e wD ⟨vD, rfl, hoD, hbD⟩
      have hbF := below_trans hb3.drew (below_trans hbA (below_trans ((Below.refl wA.heap.size wA).alloc (Nat.le_refl _) _) hbD))
      have hsz := (below_trans hb3.drew (below_trans hbA ((Below.refl wA.heap.size wA).alloc (Nat.le_refl _) (.cells #[.int .i64 (S0 : Int)] 3)))).size
      have hoF := hoD.mono hsz (Nat.le_refl _)
      rw [← HF.out] at hoF
      have HOF := Lib.hid hoF
      obtain ⟨A5, n5', c5, rfl⟩ := hoD.shape
      clear hoF
      refine hK.out _ _ (kB5 hbD hS) (fun hSn invn => ?_)
      try simp only [List.getElem_toArray, List.getElem_cons_zero, List.getElem_cons_succ, Act.put, List.setIfInBounds_toArray, List.set_cons_zero, List.set_cons_succ]
      clear hK K inv hS
      have inv := invn
      have hS := hSn
      clear invn hSn
      refine F_last (i := 13) (by kernel_rfl) rfl rfl (by omega) (by kernel_rfl) (fun K hK => ?_)
      go_simp
      refine hK _ _ ?_
      clear hK K inv hS
      clear m1 m1' m2 m2' m3 m4
      go_wp2_with fail
      go_ret
      exact ⟨_, rfl, HOF.out, hbF⟩
    · go_simp
      have hsA0 := lit_nat w1.drew 3 S0
      have hba := (Below.refl w1.drew.heap.size w1.drew).alloc (Nat.le_refl _) (.cells #[.int .i64 (S0 : Int)] 3)
      have hbz := below_trans hb3.drew hba
      refine hK.out _ _ (kA5 _ hS) (fun hSn invn => ?_)
      try simp only [List.getElem_toArray, List.getElem_cons_zero, List.getElem_cons_succ, Act.put, List.setIfInBounds_toArray, List.set_cons_zero, List.set_cons_succ]
      clear hK K inv hS
      have inv := invn
      have hS := hSn
      clear invn hSn
      refine F_one (i := 2) (by kernel_rfl) rfl rfl (by omega) inv (fun K hK => ?_)
      try simp only [List.getElem_toArray, List.getElem_cons_zero, List.getElem_cons_succ]
      go_simp
      refine (nextVertices_any _ _ g a _ (HGV.out.keep hbz) (HAV.out.keep hbz) HGO.out HAO.out).mono ?_
      rintro e wA ⟨vA, rfl, hsA, hbA⟩
      rw [← HN.out] at hsA
      refine hK.out _ _ (kB5 hbA hS) (fun hSn invn => ?_)
      try simp only [List.getElem_toArray, List.getElem_cons_zero, List.getElem_cons_succ, Act.put, List.setIfInBounds_toArray, List.set_cons_zero, List.set_cons_succ]
      clear hK K inv hS
      have inv := invn
      have hS := hSn
      clear invn hSn
      refine F_one (i := 12) (by kernel_rfl) rfl rfl (by omega) inv (fun K hK => ?_)
      try simp only [List.getElem_toArray, List.getElem_cons_zero, List.getElem_cons_succ]
      go_simp
      refine (spread_any vA _ N (nextI g a) [S0] _ (hsA.mono (Nat.zero_le _) (Nat.le_refl _)) (SlE.keep hsA0 hbA) hN1 hN60 (by simp) HFL.out HNL.out).mono ?_
      rintro e wD ⟨vD, rfl, hoD, hbD⟩
      have hbF := below_trans (below_trans hbz hbA) hbD
      have hoF := hoD.mono (below_trans hbz hbA).size (Nat.le_refl _)
      rw [← HF.out] at hoF
      have HOF := Lib.hid hoF
      obtain ⟨A5, n5', c5, rfl⟩ := hoD.shape
      clear hoF
      refine hK.out _ _ (kB5 hbD hS) (fun hSn invn => ?_)
      try simp only [List.getElem_toArray, List.getElem_cons_zero, List.getElem_cons_succ, Act.put, List.setIfInBounds_toArray, List.set_cons_zero, List.set_cons_succ]
      clear hK K inv hS
      have inv := invn
      have hS := hSn
      clear invn hSn
      refine F_last (i := 13) (by kernel_rfl) rfl rfl (by omega) (by kernel_rfl) (fun K hK => ?_)
      go_simp
      refine hK _ _ ?_
      clear hK K inv hS
      clear m1 m1' m2 m2' m3 m4
      go_wp2_with fail
      go_ret
      exact ⟨_, rfl, HOF.out, hbF⟩
end Go.Proofs.Ytallglnmeeahiaa

/- The reference's DistancesFrom and DistancesTo. -/
namespace Go.Proofs.Ytallglnmeeahiaa
set_option linter.unusedVariables false
set_option linter.unusedSimpArgs false
open Go.ChangeShapes Go.WideShapes Go.ChangeAt Go.RowKit
attribute [local go_sem] ext_cell ext_frozen ext_lt ext_lt1 ext_lt2 ext_lt3 ltn2 ltn3 ltn13 lts1 lts2 lts3

theorem distFrom_le (g : Gr) (a : Au) (x : Int) : (distFrom g a x).length ≤ 60 := by
  cases h : (wi x 0 ((g.vals.length : Int) - 1) && (grOk g && auOk a)) with
  | false => rw [distFrom, h]; simp
  | true =>
    rw [distFrom_len h]
    simp only [Bool.and_eq_true] at h
    have hn5 := (grOk_iff.1 h.2.1).n5
    have hn12 := (auOk_iff.1 h.2.2).1.2
    exact Nat.mul_le_mul hn5 hn12
theorem distTo_le (g : Gr) (a : Au) (x : Int) : (distTo g a x).length ≤ 60 := by
  cases h : (wi x 0 ((g.vals.length : Int) - 1) && (grOk g && auOk a)) with
  | false => rw [distTo, h]; simp
  | true =>
    rw [distTo_len h]
    simp only [Bool.and_eq_true] at h
    have hn5 := (grOk_iff.1 h.2.1).n5
    have hn12 := (auOk_iff.1 h.2.2).1.2
    exact Nat.mul_le_mul hn5 hn12

set_option maxHeartbeats 2000000 in
theorem specDistancesFrom (vg va : Value) (g : Gr) (a : Au) (x : Int) (w : World) (hgv : GrV 0 w.heap.size w vg g) (hav : AuV 0 w.heap.size w va a) :
    Calls Try.prog 34 #[vg, va, .int .i64 x] w fun e w' => ∃ v', e = .returned v' ∧ Own w.heap.size w'.heap.size w' 3 cI 1 v' (distFrom g a x) ∧ Below w.heap.size w w' := by
  obtain ⟨R, hR⟩ : ∃ R, R = distFrom g a x := ⟨_, rfl⟩
  have hgv0 := hgv
  have hav0 := hav
  obtain ⟨A1, n1, c1, A2, n2, c2, rfl⟩ := hgv.shape
  obtain ⟨A3, n3, c3, A4, n4, c4, rfl⟩ := hav.shape
  have hb0 : Below w.heap.size w ((w.alloc (.cells #[.slice A1 n1 c1, .slice A2 n2 c2] 38)).alloc (.cells #[.int .i64 a.start, .slice A3 n3 c3, .slice A4 n4 c4] 27)) := ((Below.refl _ _).alloc (Nat.le_refl _) _).alloc (by simp) _
  have HGV := Lib.hid hgv0
  have HAV := Lib.hid hav0
  have HR := Lib.hid hR
  clear hgv hav hgv0 hav0 hR
  go_enter Try.func34, Try.ntmps34
  go_wp2_with fail
  obtain ⟨W0, hW0⟩ : ∃ W0, W0 = ((w.alloc (.cells #[.slice A1 n1 c1, .slice A2 n2 c2] 38)).alloc (.cells #[.int .i64 a.start, .slice A3 n3 c3, .slice A4 n4 c4] 27)) := ⟨_, rfl⟩
  rw [← hW0] at hb0 ⊢
  have x0 : W0.cell? ⟨w.heap.size, 0, none⟩ = some (.slice A1 n1 c1) := by rw [hW0]; simp
  have x1 : W0.cell? ⟨w.heap.size, 1, none⟩ = some (.slice A2 n2 c2) := by rw [hW0]; simp
  have y0 : W0.cell? ⟨w.heap.size + 1, 0, none⟩ = some (.int .i64 a.start) := by rw [hW0]; simp
  have y1 : W0.cell? ⟨w.heap.size + 1, 1, none⟩ = some (.slice A3 n3 c3) := by rw [hW0]; simp
  have y2 : W0.cell? ⟨w.heap.size + 1, 2, none⟩ = some (.slice A4 n4 c4) := by rw [hW0]; simp
  have hs0 : w.heap.size + 1 + 1 = W0.heap.size := by rw [hW0]; simp
  try rw [hs0]
  have l0 : w.heap.size + 1 < W0.heap.size := by omega
  have l00 : w.heap.size < W0.heap.size := by omega
  clear hW0 hs0
  have hgx := l14Good_any _ _ g a x 0 W0 (HGV.out.keep hb0) (HAV.out.keep hb0)
  rw [goodB1] at hgx
  have HGX := Lib.hid hgx
  clear hgx
  cases hk : (wi x 0 ((g.vals.length : Int) - 1) && (grOk g && auOk a)) with
  | false =>
    rw [hk] at HGX
    have hr0 : distFrom g a x = [] := by rw [distFrom, hk]; rfl
    have HR0 := Lib.hid hr0
    clear hk hr0
    refine HGX.out.mono ?_
    rintro e w1 ⟨rfl, hb1⟩
    have hb2 := below_trans hb0 hb1
    go_wp2_with fail
    go_ret
    exact ⟨_, rfl, by rw [HR0.out]; exact lit_nil hb2.size, hb2.alloc hb2.size _⟩
  | true =>
    rw [hk] at HGX
    simp only [Bool.and_eq_true, wi_iff] at hk
    obtain ⟨⟨hx0, hx1⟩, hgo, ha⟩ := hk
    obtain ⟨x, rfl⟩ := Int.eq_ofNat_of_zero_le hx0
    have hxl : x < g.vals.length := by omega
    have HLF := Lib.hid (fun (W : World) (hW : Below w.heap.size w W) => l14Ranks_any _ _ g a x W (HGV.out.keep hW) (HAV.out.keep hW) hgo ha hxl)
    clear hx0 hx1 hgo ha
    refine HGX.out.mono ?_
    rintro e w1 ⟨rfl, hb1⟩
    have hb2 := below_trans hb0 hb1
    have x0 := kcell hb1 x0
    have x1 := kcell hb1 x1
    have y0 := kcell hb1 y0
    have y1 := kcell hb1 y1
    have y2 := kcell hb1 y2
    go_wp2_with fail
    refine (HLF.out w1 hb2).mono ?_
    rintro e w2 ⟨v2, rfl, ho2, hb3⟩
    obtain ⟨A9, c9, rfl, -, -, -⟩ := ho2.form cI_len
    have HO := Lib.hid (ho2.mono hb2.size (Nat.le_refl _))
    clear ho2
    go_wp2_with fail
    go_ret
    exact ⟨_, rfl, HO.out, below_trans hb2 hb3⟩

end Go.Proofs.Ytallglnmeeahiaa

/- Lists of the numbers that a test picks: ReachableProduct, MeetingPoints, UsefulProduct on the reference's side and the program's. -/
namespace Go.Proofs.Ytallglnmeeahiaa
set_option linter.unusedVariables false
set_option linter.unusedSimpArgs false
open Go.ChangeShapes Go.WideShapes Go.ChangeAt Go.RowKit
attribute [local go_sem] ext_cell ext_frozen ext_lt ext_lt1 ext_lt2 ext_lt3 ltn2 ltn3 ltn13 lts1 lts2 lts3

def pickL (p : Nat → Bool) (k : Nat) : List Int := ((List.range k).filter p).map fun (i : Nat) => (i : Int)
theorem pick_yes {p : Nat → Bool} {k : Nat} (h : p k = true) : pickL p (k + 1) = pickL p k ++ [(k : Int)] := by
  simp [pickL, List.range_succ, List.filter_append, h]
theorem pick_no {p : Nat → Bool} {k : Nat} (h : p k = false) : pickL p (k + 1) = pickL p k := by
  simp [pickL, List.range_succ, List.filter_append, h]
theorem pick_len (p : Nat → Bool) (k : Nat) : (pickL p k).length ≤ k := by
  unfold pickL
  rw [List.length_map]
  exact Nat.le_trans (List.length_filter_le _ _) (by simp)

def reachP (g : Gr) (a : Au) (x : Int) (i : Nat) : Bool := decide (0 ≤ (distFrom g a x).getD i 0)
def reachL (g : Gr) (a : Au) (x : Int) : List Int := pickL (reachP g a x) (distFrom g a x).length
theorem reachL_len (g : Gr) (a : Au) (x : Int) : (reachL g a x).length ≤ 60 := Nat.le_trans (pick_len _ _) (distFrom_le g a x)

set_option maxHeartbeats 4000000 in
set_option maxRecDepth 100000 in
theorem implReachableProduct (vg va : Value) (g : Gr) (a : Au) (x : Int) (w : World) (hgv : GrV 0 w.heap.size w vg g) (hav : AuV 0 w.heap.size w va a) :
    Calls Try.prog 31 #[vg, va, .int .i64 x] w fun e w' => ∃ v', e = .returned v' ∧ Own w.heap.size w'.heap.size w' 3 cI 1 v' (reachL g a x) ∧ Below w.heap.size w w' := by
  obtain ⟨R, hR⟩ : ∃ R, R = reachL g a x := ⟨_, rfl⟩
  rw [← hR]
  have HRR := Lib.hid hR
  clear hR
  have hgv0 := hgv
  have hav0 := hav
  obtain ⟨A1, c1, A2, c2, rfl, hl1, hm1, hl2, hm2, hC1, -⟩ := hgv.form
  obtain ⟨ac, nx, rfl, hac, hnx⟩ := hav
  obtain ⟨A3, c3, rfl, hl3, hm3, -⟩ := SlE.form hac
  obtain ⟨A4, n4, c4, rfl⟩ := hnx.shape
  have hb0 : Below w.heap.size w ((w.alloc (.cells #[.slice A1 g.vals.length c1, .slice A2 g.edges.length c2] 38)).alloc (.cells #[.int .i64 a.start, .slice A3 a.accept.length c3, .slice A4 n4 c4] 27)) := ((Below.refl _ _).alloc (Nat.le_refl _) _).alloc (by simp) _
  have HGV := Lib.hid hgv0
  have HAV := Lib.hid hav0
  have HC1 := Lib.hid hC1
  clear hgv hac hnx hgv0 hav0 hC1
  go_enter Try.func31, Try.ntmps31
  go_wp2_with fail
  obtain ⟨W0, hW0⟩ : ∃ W0, W0 = ((w.alloc (.cells #[.slice A1 g.vals.length c1, .slice A2 g.edges.length c2] 38)).alloc (.cells #[.int .i64 a.start, .slice A3 a.accept.length c3, .slice A4 n4 c4] 27)).alloc (.cells #[] 3) := ⟨_, rfl⟩
  have hb0 : Below w.heap.size w W0 := by rw [hW0]; exact hb0.alloc hb0.size _
  rw [← hW0]
  have bx : Blk W0 w.heap.size 38 #[.slice A1 g.vals.length c1, .slice A2 g.edges.length c2] := by rw [hW0]; exact ((Blk.new w _ _ w.heap.size rfl).alloc _).alloc _
  have by_ : Blk W0 (w.heap.size + 1) 27 #[.int .i64 a.start, .slice A3 a.accept.length c3, .slice A4 n4 c4] := by rw [hW0]; exact (Blk.new (w.alloc _) _ _ (w.heap.size + 1) (by simp)).alloc _
  have hrow0 : W0.ownsRow (w.heap.size + 1 + 1) 3 1 (.slice (some ⟨w.heap.size + 1 + 1, 0, none⟩) 0 0) ([] : List Int).length (([] : List Int).flatMap cI) := by
    rw [hW0]
    have h := World.ownsRow_lit (base := w.heap.size + 1 + 1) (e := 3) (size := 1) ((w.alloc (.cells #[.slice A1 g.vals.length c1, .slice A2 g.edges.length c2] 38)).alloc (.cells #[.int .i64 a.start, .slice A3 a.accept.length c3, .slice A4 n4 c4] 27)) #[] 0 (by simp) (by decide) rfl
    simpa using h
  have x0 : W0.cell? ⟨w.heap.size, 0, none⟩ = some (.slice A1 g.vals.length c1) := bx.cell 0
  have x1 : W0.cell? ⟨w.heap.size, 1, none⟩ = some (.slice A2 g.edges.length c2) := bx.cell 1
  have y0 : W0.cell? ⟨w.heap.size + 1, 0, none⟩ = some (.int .i64 a.start) := by_.cell 0
  have y1 : W0.cell? ⟨w.heap.size + 1, 1, none⟩ = some (.slice A3 a.accept.length c3) := by_.cell 1
  have y2 : W0.cell? ⟨w.heap.size + 1, 2, none⟩ = some (.slice A4 n4 c4) := by_.cell 2
  have l0 := by_.lt
  have l00 := bx.lt
  have HROW0 := Lib.hid hrow0
  have hsW : W0.heap.size = w.heap.size + 1 + 1 + 1 := by rw [hW0]; simp
  have hsW' : w.heap.size + 1 + 1 < W0.heap.size := by omega
  have HSW := Lib.hid hsW
  clear hW0 bx by_ hrow0 hsW
  refine (implDistancesFrom _ _ g a x W0 (HGV.out.keep hb0) (HAV.out.keep hb0)).mono ?_
  rintro e w1 ⟨v1, rfl, ho1, hb1⟩
  have hb2 := below_trans hb0 hb1
  have hs1 := hb1.size
  have hs0 := hb0.size
  have HROW1 := Lib.hid (ownsRow_below HROW0.out hb1 (Nat.le_refl _))
  have HC6 := Lib.hid (ho1.sl cI_len)
  obtain ⟨A6, c6, rfl, hl6, hm6, -⟩ := ho1.form cI_len
  clear ho1 hb1 hb0 HROW0 x0 x1 y0 y1 y2
  have hN60 := distFrom_le g a x
  have hR := HRR.out
  clear HRR
  obtain ⟨P, hP⟩ : ∃ P, P = reachP g a x := ⟨_, rfl⟩
  have hPi : ∀ i, P i = decide (0 ≤ (distFrom g a x).getD i 0) := fun i => by rw [hP]; rfl
  rw [reachL, ← hP] at hR
  generalize distFrom g a x = D at *
  obtain ⟨N, hN⟩ : ∃ N, N = D.length := ⟨_, rfl⟩
  rw [← hN] at hR hl6 hN60 ⊢
  have HP := Lib.hid hPi
  have HR := Lib.hid hR
  have HN := Lib.hid hN
  clear hR hP hPi hN
  go_wp2_with fail
  obtain ⟨gO, hgO⟩ : ∃ gO, gO = w.heap.size + 1 + 1 := ⟨_, rfl⟩
  rw [← hgO] at HROW1 hsW' ⊢
  have hgw : w.heap.size + 1 < gO := by omega
  clear hgO HSW
  go_loopw [7, 16] (fun oo ii wr => ∃ i : Nat, i ≤ N ∧ ii = .int .i64 (i : Int) ∧ wr.ownsRow gO 3 1 oo (pickL P i).length ((pickL P i).flatMap cI) ∧ Only gO (gO + 1) w1 wr ∧ (∀ b, oo.ownBlock = some b → b = gO ∨ w1.heap.size ≤ b)) (fun _ ii _ => N - (intOf ii).toNat)
  case atStart => exact ⟨0, Nat.zero_le _, rfl, HROW1.out, Only.refl _ _ _, fun b hb => by cases hb; exact .inl rfl⟩
  case round =>
    clear HROW1
    obtain ⟨i, hi, rfl, hrow, hon, hob⟩ := hrel
    have hsz := hon.size
    have hbw := hb2.trans (hon.below (B := w.heap.size) (by omega) hb2.size)
    have HBW := Lib.hid hbw
    have HROW := Lib.hid hrow
    have HOB := Lib.hid hob
    have HON := Lib.hid hon
    have hfl := pick_len P i
    clear hrow hob hbw hon
    by_cases hlt : i < N
    · have hdi := getD_of (D := D) (k := i) (by have := HN.out; omega)
      obtain ⟨b6, o6, rfl, hb60, hb6, d6⟩ := HC6.out.intI hdi
      have d6 := ocell HON.out d6 hb6 (.inr (by omega))
      have hii : (i : Int) < (N : Int) := by omega
      have HPI := Lib.hid (HP.out i)
      have HY := Lib.hid (fun h => pick_yes (p := P) (k := i) h)
      have HNo := Lib.hid (fun h => pick_no (p := P) (k := i) h)
      clear hdi
      generalize D.getD i 0 = d at *
      generalize pickL P i = L at *
      by_cases hd : 0 ≤ d
      · have hd0 : decide (d ≥ 0) = true := by simpa using hd
        have HM := Lib.hid (HY.out (by rw [HPI.out]; simpa using hd))
        go_wp2_with (at_builtin; (refine wpList_append1 cI elInt rfl _ _ rfl gO _ L (i : Int) _ 1 _ (by rfl) HROW.out (by rfl) rfl rfl rfl (cI_one _) (by omega) (by omega) (by omega) ?_); intro v' w4 hrow' hb4 hat4 hgr4)
        go_roundw
        case rel =>
          refine ⟨i + 1, by omega, by go_num, by rw [HM.out]; exact hrow', (HON.out.alloc _).grown hgr4 (fun b hb => by have := HOB.out b hb; omega), fun b hb => ?_⟩
          rcases hat4 with h1 | ⟨g1, h1, h2⟩
          · exact HOB.out b (by rw [← h1]; exact hb)
          · rw [h1] at hb
            injection hb with hb
            exact .inr (by omega)
        case measure => simp [intOf]; omega
      · have hd0 : decide (d ≥ 0) = false := by simpa using hd
        have HM := Lib.hid (HNo.out (by rw [HPI.out]; simpa using hd))
        go_wp2_with fail
        go_roundw
        case rel => exact ⟨i + 1, by omega, by go_num, by rw [HM.out]; exact HROW.out, HON.out, HOB.out⟩
        case measure => simp [intOf]; omega
    · obtain rfl : i = N := by omega
      have hown := Own.of_row (xs := pickL P i) HROW.out rfl rfl
      rw [← HR.out] at hown
      obtain ⟨A9, n9, c9, rfl⟩ := hown.shape
      have HO := Lib.hid (hown.mono (show w.heap.size ≤ gO by omega) (Nat.le_refl _))
      clear hown
      go_wp2_with fail
      go_ret
      exact ⟨_, rfl, HO.out, HBW.out⟩
set_option maxHeartbeats 4000000 in
set_option maxRecDepth 100000 in
theorem specReachableProduct (vg va : Value) (g : Gr) (a : Au) (x : Int) (w : World) (hgv : GrV 0 w.heap.size w vg g) (hav : AuV 0 w.heap.size w va a) :
    Calls Try.prog 33 #[vg, va, .int .i64 x] w fun e w' => ∃ v', e = .returned v' ∧ Own w.heap.size w'.heap.size w' 3 cI 1 v' (reachL g a x) ∧ Below w.heap.size w w' := by
  obtain ⟨R, hR⟩ : ∃ R, R = reachL g a x := ⟨_, rfl⟩
  rw [← hR]
  have HRR := Lib.hid hR
  clear hR
  have hgv0 := hgv
  have hav0 := hav
  obtain ⟨A1, c1, A2, c2, rfl, hl1, hm1, hl2, hm2, hC1, -⟩ := hgv.form
  obtain ⟨ac, nx, rfl, hac, hnx⟩ := hav
  obtain ⟨A3, c3, rfl, hl3, hm3, -⟩ := SlE.form hac
  obtain ⟨A4, n4, c4, rfl⟩ := hnx.shape
  have hb0 : Below w.heap.size w ((w.alloc (.cells #[.slice A1 g.vals.length c1, .slice A2 g.edges.length c2] 38)).alloc (.cells #[.int .i64 a.start, .slice A3 a.accept.length c3, .slice A4 n4 c4] 27)) := ((Below.refl _ _).alloc (Nat.le_refl _) _).alloc (by simp) _
  have HGV := Lib.hid hgv0
  have HAV := Lib.hid hav0
  have HC1 := Lib.hid hC1
  clear hgv hac hnx hgv0 hav0 hC1
  go_enter Try.func33, Try.ntmps33
  go_wp2_with fail
  obtain ⟨W0, hW0⟩ : ∃ W0, W0 = ((w.alloc (.cells #[.slice A1 g.vals.length c1, .slice A2 g.edges.length c2] 38)).alloc (.cells #[.int .i64 a.start, .slice A3 a.accept.length c3, .slice A4 n4 c4] 27)).alloc (.cells #[] 3) := ⟨_, rfl⟩
  have hb0 : Below w.heap.size w W0 := by rw [hW0]; exact hb0.alloc hb0.size _
  rw [← hW0]
  have bx : Blk W0 w.heap.size 38 #[.slice A1 g.vals.length c1, .slice A2 g.edges.length c2] := by rw [hW0]; exact ((Blk.new w _ _ w.heap.size rfl).alloc _).alloc _
  have by_ : Blk W0 (w.heap.size + 1) 27 #[.int .i64 a.start, .slice A3 a.accept.length c3, .slice A4 n4 c4] := by rw [hW0]; exact (Blk.new (w.alloc _) _ _ (w.heap.size + 1) (by simp)).alloc _
  have hrow0 : W0.ownsRow (w.heap.size + 1 + 1) 3 1 (.slice (some ⟨w.heap.size + 1 + 1, 0, none⟩) 0 0) ([] : List Int).length (([] : List Int).flatMap cI) := by
    rw [hW0]
    have h := World.ownsRow_lit (base := w.heap.size + 1 + 1) (e := 3) (size := 1) ((w.alloc (.cells #[.slice A1 g.vals.length c1, .slice A2 g.edges.length c2] 38)).alloc (.cells #[.int .i64 a.start, .slice A3 a.accept.length c3, .slice A4 n4 c4] 27)) #[] 0 (by simp) (by decide) rfl
    simpa using h
  have x0 : W0.cell? ⟨w.heap.size, 0, none⟩ = some (.slice A1 g.vals.length c1) := bx.cell 0
  have x1 : W0.cell? ⟨w.heap.size, 1, none⟩ = some (.slice A2 g.edges.length c2) := bx.cell 1
  have y0 : W0.cell? ⟨w.heap.size + 1, 0, none⟩ = some (.int .i64 a.start) := by_.cell 0
  have y1 : W0.cell? ⟨w.heap.size + 1, 1, none⟩ = some (.slice A3 a.accept.length c3) := by_.cell 1
  have y2 : W0.cell? ⟨w.heap.size + 1, 2, none⟩ = some (.slice A4 n4 c4) := by_.cell 2
  have l0 := by_.lt
  have l00 := bx.lt
  have HROW0 := Lib.hid hrow0
  have hsW : W0.heap.size = w.heap.size + 1 + 1 + 1 := by rw [hW0]; simp
  have hsW' : w.heap.size + 1 + 1 < W0.heap.size := by omega
  have HSW := Lib.hid hsW
  clear hW0 bx by_ hrow0 hsW
  have hgx := l14Good_any _ _ g a x 0 W0 (HGV.out.keep hb0) (HAV.out.keep hb0)
  rw [goodB1] at hgx
  have HGX := Lib.hid hgx
  clear hgx
  have hR := HRR.out
  clear HRR
  cases hk : (wi x 0 ((g.vals.length : Int) - 1) && (grOk g && auOk a)) with
  | false =>
    rw [hk] at HGX
    have hr0 : R = [] := by rw [hR, reachL, distFrom, hk]; rfl
    have HR0 := Lib.hid hr0
    clear hk hr0 hR
    refine HGX.out.mono ?_
    rintro e w1 ⟨rfl, hb1⟩
    have hb2 := below_trans hb0 hb1
    have HROW1 := Lib.hid (ownsRow_below HROW0.out hb1 (Nat.le_refl _))
    go_wp2_with fail
    go_ret
    exact ⟨_, rfl, by rw [HR0.out]; exact (Own.of_row (xs := ([] : List Int)) HROW1.out rfl rfl).mono (by omega) (Nat.le_refl _), hb2⟩
  | true =>
    rw [hk] at HGX
    simp only [Bool.and_eq_true, wi_iff] at hk
    obtain ⟨⟨hx0, hx1⟩, hgo, ha⟩ := hk
    obtain ⟨x, rfl⟩ := Int.eq_ofNat_of_zero_le hx0
    have hxl : x < g.vals.length := by omega
    have HLF := Lib.hid (fun (W : World) (hW : Below w.heap.size w W) => l14Ranks_any _ _ g a x W (HGV.out.keep hW) (HAV.out.keep hW) hgo ha hxl)
    clear hx0 hx1 hgo ha
    have hN60 := distFrom_le g a (x : Int)
    obtain ⟨P, hP⟩ : ∃ P, P = reachP g a (x : Int) := ⟨_, rfl⟩
    have hPi : ∀ i, P i = decide (0 ≤ (distFrom g a (x : Int)).getD i 0) := fun i => by rw [hP]; rfl
    rw [reachL, ← hP] at hR
    generalize distFrom g a (x : Int) = D at *
    have HP := Lib.hid hPi
    have HR := Lib.hid hR
    clear hR hP hPi
    refine HGX.out.mono ?_
    rintro e w1 ⟨rfl, hb1⟩
    have hb2 := below_trans hb0 hb1
    have x0 := kcell hb1 x0
    have x1 := kcell hb1 x1
    have y0 := kcell hb1 y0
    have y1 := kcell hb1 y1
    have y2 := kcell hb1 y2
    have HROW1 := Lib.hid (ownsRow_below HROW0.out hb1 (Nat.le_refl _))
    have hs1 := hb1.size
    clear hb1 hb0 HROW0
    go_wp2_with fail
    refine (HLF.out w1 hb2).mono ?_
    rintro e w3 ⟨v3, rfl, ho3, hb3⟩
    have hb2 := below_trans hb2 hb3
    have hs3 := hb3.size
    have HROW1 := Lib.hid (ownsRow_below HROW1.out hb3 (Nat.le_refl _))
    have HC6 := Lib.hid (ho3.sl cI_len)
    obtain ⟨A6, c6, rfl, hl6, hm6, -⟩ := ho3.form cI_len
    obtain ⟨N, hN⟩ : ∃ N, N = D.length := ⟨_, rfl⟩
    rw [← hN] at HR hl6 hN60 ⊢
    have HN := Lib.hid hN
    clear ho3 hN hb3 x0 x1 y0 y1 y2 HLF HGX
    have hs0 := hb2.size
    go_wp2_with fail
    obtain ⟨gO, hgO⟩ : ∃ gO, gO = w.heap.size + 1 + 1 := ⟨_, rfl⟩
    rw [← hgO] at HROW1 hsW' ⊢
    have hgw : w.heap.size + 1 < gO := by omega
    clear hgO HSW
    go_loopw [7, 9] (fun oo ii wr => ∃ i : Nat, i ≤ N ∧ ii = .int .i64 (i : Int) ∧ wr.ownsRow gO 3 1 oo (pickL P i).length ((pickL P i).flatMap cI) ∧ Only gO (gO + 1) w3 wr ∧ (∀ b, oo.ownBlock = some b → b = gO ∨ w3.heap.size ≤ b)) (fun _ ii _ => N - (intOf ii).toNat)
    case atStart => exact ⟨0, Nat.zero_le _, rfl, HROW1.out, Only.refl _ _ _, fun b hb => by cases hb; exact .inl rfl⟩
    case round =>
      clear HROW1
      obtain ⟨i, hi, rfl, hrow, hon, hob⟩ := hrel
      have hsz := hon.size
      have hbw := hb2.trans (hon.below (B := w.heap.size) (by omega) hb2.size)
      have HBW := Lib.hid hbw
      have HROW := Lib.hid hrow
      have HOB := Lib.hid hob
      have HON := Lib.hid hon
      have hfl := pick_len P i
      clear hrow hob hbw hon
      by_cases hlt : i < N
      · have hdi := getD_of (D := D) (k := i) (by have := HN.out; omega)
        obtain ⟨b6, o6, rfl, hb60, hb6, d6⟩ := HC6.out.intI hdi
        have d6 := ocell HON.out d6 hb6 (.inr (by omega))
        have hii : (i : Int) < (N : Int) := by omega
        have HPI := Lib.hid (HP.out i)
        have HY := Lib.hid (fun h => pick_yes (p := P) (k := i) h)
        have HNo := Lib.hid (fun h => pick_no (p := P) (k := i) h)
        clear hdi
        generalize D.getD i 0 = d at *
        generalize pickL P i = L at *
        by_cases hd : 0 ≤ d
        · have hd0 : decide (d ≥ 0) = true := by simpa using hd
          have HM := Lib.hid (HY.out (by rw [HPI.out]; simpa using hd))
          go_wp2_with (at_builtin; (refine wpList_append1 cI elInt rfl _ _ rfl gO _ L (i : Int) _ 1 _ (by rfl) HROW.out (by rfl) rfl rfl rfl (cI_one _) (by omega) (by omega) (by omega) ?_); intro v' w4 hrow' hb4 hat4 hgr4)
          go_roundw
          case rel =>
            refine ⟨i + 1, by omega, by go_num, by rw [HM.out]; exact hrow', (HON.out.alloc _).grown hgr4 (fun b hb => by have := HOB.out b hb; omega), fun b hb => ?_⟩
            rcases hat4 with h1 | ⟨g1, h1, h2⟩
            · exact HOB.out b (by rw [← h1]; exact hb)
            · rw [h1] at hb
              injection hb with hb
              exact .inr (by omega)
          case measure => simp [intOf]; omega
        · have hd0 : decide (d ≥ 0) = false := by simpa using hd
          have HM := Lib.hid (HNo.out (by rw [HPI.out]; simpa using hd))
          go_wp2_with fail
          go_roundw
          case rel => exact ⟨i + 1, by omega, by go_num, by rw [HM.out]; exact HROW.out, HON.out, HOB.out⟩
          case measure => simp [intOf]; omega
      · obtain rfl : i = N := by omega
        have hown := Own.of_row (xs := pickL P i) HROW.out rfl rfl
        rw [← HR.out] at hown
        obtain ⟨A9, n9, c9, rfl⟩ := hown.shape
        have HO := Lib.hid (hown.mono (show w.heap.size ≤ gO by omega) (Nat.le_refl _))
        clear hown
        go_wp2_with fail
        go_ret
        exact ⟨_, rfl, HO.out, HBW.out⟩
end Go.Proofs.Ytallglnmeeahiaa

/- The law of FnProduct's second half, plainly: the vertices that are reached are those with a distance, and the first one is among them. -/
namespace Go.Proofs.Ytallglnmeeahiaa
set_option linter.unusedVariables false
set_option linter.unusedSimpArgs false
open Go.ChangeShapes Go.WideShapes Go.ChangeAt Go.RowKit

theorem mem_pickL {p : Nat → Bool} {k : Nat} {x : Int} : x ∈ pickL p k ↔ ∃ i : Nat, i < k ∧ p i = true ∧ x = (i : Int) := by
  unfold pickL
  rw [List.mem_map]
  constructor
  · rintro ⟨i, hi, rfl⟩
    rw [List.mem_filter, List.mem_range] at hi
    exact ⟨i, hi.1, hi.2, rfl⟩
  · rintro ⟨i, hi, hp, rfl⟩
    exact ⟨i, by rw [List.mem_filter, List.mem_range]; exact ⟨hi, hp⟩, rfl⟩
theorem mem_reachL {g : Gr} {a : Au} {x : Int} {i : Nat} {d : Int} (h : (distFrom g a x)[i]? = some d) : (i : Int) ∈ reachL g a x ↔ 0 ≤ d := by
  have hi := (List.getElem?_eq_some_iff.1 h).1
  have hd : (distFrom g a x).getD i 0 = d := by rw [List.getD_eq_getElem?_getD, h]; rfl
  rw [reachL, mem_pickL]
  constructor
  · rintro ⟨j, -, hp, hj⟩
    obtain rfl : i = j := by omega
    rw [reachP, decide_eq_true_eq, hd] at hp
    exact hp
  · intro h0
    exact ⟨i, hi, by rw [reachP, decide_eq_true_eq, hd]; exact h0, rfl⟩
theorem relax_keep {d : Int} : ∀ (l : List Nat) (D : List Int) (q : List Nat) (i : Nat), i < D.length → 0 ≤ D.getD i 0 → (relax d l D q).1.getD i 0 = D.getD i 0 ∧ (relax d l D q).1.length = D.length
  | [], D, q, i, hi, h => ⟨rfl, rfl⟩
  | k :: l, D, q, i, hi, h => by
    rw [relax]
    split
    · rename_i hk
      have hne : k ≠ i := fun e => by subst e; omega
      have hg : (D.set k d).getD i 0 = D.getD i 0 := by rw [List.getD_eq_getElem?_getD, List.getD_eq_getElem?_getD, List.getElem?_set_ne hne]
      have := relax_keep (d := d) l (D.set k d) (q ++ [k]) i (by rw [List.length_set]; exact hi) (by rw [hg]; exact h)
      rw [hg, List.length_set] at this
      exact this
    · exact relax_keep l D q i hi h
theorem bfs_keep (next : Nat → List Nat) : ∀ (f : Nat) (D : List Int) (q : List Nat) (i : Nat), i < D.length → 0 ≤ D.getD i 0 → (bfs next f D q).getD i 0 = D.getD i 0
  | 0, D, q, i, hi, h => rfl
  | f + 1, D, [], i, hi, h => rfl
  | f + 1, D, k :: q, i, hi, h => by
    rw [bfs]
    obtain ⟨h1, h2⟩ := relax_keep (d := D.getD k 0 + 1) (next k) D q i hi h
    rw [bfs_keep next f _ _ i (by rw [h2]; exact hi) (by rw [h1]; exact h), h1]
theorem reach_start {g : Gr} {a : Au} {x : Int} (h : reachL g a x ≠ []) : pidx a x a.start ∈ reachL g a x := by
  by_cases hok : (wi x 0 ((g.vals.length : Int) - 1) && (grOk g && auOk a)) = true
  · have hlen := distFrom_len hok
    have hd := hok
    simp only [Bool.and_eq_true, wi_iff] at hok
    obtain ⟨⟨hx0, hx1⟩, hg, ha⟩ := hok
    obtain ⟨⟨hn1, hn12⟩, ⟨hst0, hst1⟩, -, -⟩ := auOk_iff.1 ha
    have hn5 := (grOk_iff.1 hg).n5
    obtain ⟨s, hs⟩ : ∃ s : Nat, a.start = (s : Int) := ⟨a.start.toNat, by omega⟩
    obtain ⟨x, rfl⟩ := Int.eq_ofNat_of_zero_le hx0
    have hmul := Nat.mul_le_mul_right a.accept.length (show x + 1 ≤ g.vals.length by omega)
    rw [Nat.succ_mul] at hmul
    have hi : x * a.accept.length + s < g.vals.length * a.accept.length := by omega
    have hp : pidx a (x : Int) a.start = ((x * a.accept.length + s : Nat) : Int) := by
      rw [pidx, if_pos (by rw [Bool.and_eq_true, hasSt, Bool.and_eq_true, wi_iff, wi_iff]; exact ⟨⟨⟨hst0, by omega⟩, ha⟩, by omega, by omega⟩), hs]
      simp
    have hz : (distFrom g a (x : Int)).getD (x * a.accept.length + s) 0 = 0 := by
      rw [distFrom, if_pos hd, Int.toNat_natCast, hs, Int.toNat_natCast, spreadR, bfs_keep]
      · rw [srcD_at hi, if_pos (by simp)]
      · rw [srcD_len]; exact hi
      · rw [srcD_at hi, if_pos (by simp)]; omega
    rw [hp]
    refine (mem_reachL (d := 0) ?_).2 (by omega)
    have hl : x * a.accept.length + s < (distFrom g a (x : Int)).length := by rw [hlen]; exact hi
    rw [List.getElem?_eq_getElem hl]
    rw [List.getD_eq_getElem?_getD, List.getElem?_eq_getElem hl, Option.getD_some] at hz
    rw [hz]
  · exfalso
    apply h
    rw [reachL, distFrom, if_neg hok]
    rfl
end Go.Proofs.Ytallglnmeeahiaa

/- The reference's letter of a step. -/
namespace Go.Proofs.Ytallglnmeeahiaa
set_option linter.unusedVariables false
set_option linter.unusedSimpArgs false
open Go.ChangeShapes Go.WideShapes Go.ChangeAt Go.RowKit
attribute [local go_sem] ext_cell ext_frozen ext_lt ext_lt1 ext_lt2 ext_lt3 ltn2 ltn3 ltn13 lts1 lts2 lts3

set_option maxHeartbeats 1000000 in
theorem specStepLetter (v : Value) (g : Gr) (s : St) (w : World) (hv : GrV 0 w.heap.size w v g) :
    Calls Try.prog 29 #[v, .agg #[.int .i64 s.1, .bool s.2]] w fun en w' => en = .returned (.int .i64 (stepLetter g s)) ∧ Below w.heap.size w w' := by
  have hv0 := hv
  obtain ⟨A1, n1, c1, A2, n2, c2, rfl⟩ := hv.shape
  clear hv
  obtain ⟨id, inv⟩ := s
  have hb0 : Below w.heap.size w ((w.alloc (.cells #[.slice A1 n1 c1, .slice A2 n2 c2] 38)).alloc (.cells #[.int .i64 id, .bool inv] 54)) := ((Below.refl _ _).alloc (Nat.le_refl _) _).alloc (by simp) _
  have hc := fun W (hW : Below w.heap.size w W) => specStepEdge _ g (id, inv) W (hv0.keep hW)
  simp only at hc ⊢
  have HC := Lib.hid hc
  clear hc
  cases hs : stepEd g id with
  | none =>
    have hres : stepLetter g (id, inv) = -1 := by rw [stepLetter]; simp [hs]
    have HR := Lib.hid hres
    rw [hs] at HC
    clear hres hs
    go_enter Try.func29, Try.ntmps29
    go_wp2_with fail
    refine (HC.out _ hb0).mono ?_
    rintro en w1 ⟨e, rfl, -, hb1⟩
    have hb2 := below_trans hb0 hb1
    clear hb0 hb1
    go_wp2_with fail
    go_ret
    exact ⟨ret_int HR.out.symm, hb2.alloc hb2.size _⟩
  | some e =>
    rw [hs] at HC
    have hres : stepLetter g (id, inv) = if inv then 2 * e.2.2.2 + 1 else 2 * e.2.2.2 := by rw [stepLetter]; simp [hs]
    obtain ⟨hg, hm, -⟩ := stepEd_ok hs
    have hl := (hg.edges e hm).2.2.2
    have hl0 := hl.1
    have hl1 := hl.2
    have HR := Lib.hid hres
    clear hres hs hg hm hl
    go_enter Try.func29, Try.ntmps29
    go_wp2_with fail
    refine (HC.out _ hb0).mono ?_
    rintro en w1 ⟨e1, rfl, he1, hb1⟩
    obtain rfl := he1 e rfl
    have b1 := (Blk.new (w.alloc _) _ _ (w.heap.size + 1) (by simp)).keep hb1
    have y1 : w1.cell? ⟨w.heap.size + 1, 1, none⟩ = some _ := b1.cell 1
    have hlt := b1.lt
    have hb2 := below_trans hb0 hb1
    clear hb0 hb1 he1 b1
    cases inv with
    | true =>
      go_wp2_with fail
      go_ret
      exact ⟨ret_int HR.out.symm, hb2.alloc hb2.size _⟩
    | false =>
      go_wp2_with fail
      go_ret
      exact ⟨ret_int HR.out.symm, hb2.alloc hb2.size _⟩
end Go.Proofs.Ytallglnmeeahiaa

/- A region that draws its order: guarded operations. Over any program. -/
namespace Go.Proofs.Ytallglnmeeahiaa
set_option linter.unusedVariables false
set_option linter.unusedSimpArgs false
open Go.RowKit
/-- the only one that may come up: an operation below n whose guard is met -/
theorem F_oneH {P : Program} {ops : Array Oper} {Q : Exit → Act → World → Prop} {md : Region.Mode} {S : World → Prop} {n : Nat} {i : Nat} {oi : Oper} {f : Nat} {listed : Array Bool} {a : Act} {w : World} (hr : Region.ready md ops listed = [i]) (hi : ops[i]? = some oi) (hw : Region.wanted oi (yielded ops a.tmps) = true) (hin : i < n) (inv : HeadInv md ops n listed)
    (h : ∀ K : Act → World → Prop, Shut (∀ a' w', S w' → (S w' → HeadInv md ops n (listed.setIfInBounds i true) → wpAnyF P md ops Q S n f (listed.setIfInBounds i true) a' w') → K a' w') → Oper.wp P oi a w K Q) : wpAnyF P md ops Q S n (f + 1) listed a w := by
  refine ⟨fun h0 => (by rw [hr] at h0; cases h0), fun j hj => ?_⟩
  have hj2 := hj
  rw [hr] at hj2
  obtain rfl : j = i := by simpa using hj2
  unfold wpOp
  simp only [hi, hw, if_true]
  exact .inl (h _ (fun a' w' hS hF => ⟨fun _ => hS, hF hS (inv.set hj hin)⟩))
/-- the only one that may come up: an operation below n whose guard is not met -/
theorem F_oneN {P : Program} {ops : Array Oper} {Q : Exit → Act → World → Prop} {md : Region.Mode} {S : World → Prop} {n : Nat} {i : Nat} {oi : Oper} {f : Nat} {listed : Array Bool} {a : Act} {w : World} (hr : Region.ready md ops listed = [i]) (hi : ops[i]? = some oi) (hw : Region.wanted oi (yielded ops a.tmps) = false) (hin : i < n) (inv : HeadInv md ops n listed) (hS : S w)
    (h : HeadInv md ops n (listed.setIfInBounds i true) → wpAnyF P md ops Q S n f (listed.setIfInBounds i true) (a.put oi.dst undef) w) : wpAnyF P md ops Q S n (f + 1) listed a w := by
  refine ⟨fun h0 => (by rw [hr] at h0; cases h0), fun j hj => ?_⟩
  have hj2 := hj
  rw [hr] at hj2
  obtain rfl : j = i := by simpa using hj2
  unfold wpOp
  simp only [hi, hw]
  exact ⟨fun _ => hS, h (inv.set hj hin)⟩
/-- the last one that may come up, its guard met -/
theorem F_lastH {P : Program} {ops : Array Oper} {Q : Exit → Act → World → Prop} {md : Region.Mode} {S : World → Prop} {n : Nat} {i : Nat} {oi : Oper} {f : Nat} {listed : Array Bool} {a : Act} {w : World} (hr : Region.ready md ops listed = [i]) (hi : ops[i]? = some oi) (hw : Region.wanted oi (yielded ops a.tmps) = true) (hin : n ≤ i) (he : Region.ready md ops (listed.setIfInBounds i true) = [])
    (h : ∀ K : Act → World → Prop, (∀ a' w', Q .normal a' w' → K a' w') → Oper.wp P oi a w K Q) : wpAnyF P md ops Q S n (f + 1) listed a w := by
  refine ⟨fun h0 => (by rw [hr] at h0; cases h0), fun j hj => ?_⟩
  rw [hr] at hj
  obtain rfl : j = i := by simpa using hj
  unfold wpOp
  simp only [hi, hw, if_true]
  refine .inl (h _ (fun a' w' hq => ⟨fun h => absurd h (by omega), ?_⟩))
  cases f with
  | zero => exact ⟨he, hq⟩
  | succ f => exact ⟨fun _ => hq, by rw [he]; simp⟩
end Go.Proofs.Ytallglnmeeahiaa

/- Whether a program's text can call itself: told by ranks along the calls. Over any program. -/
namespace Go.Proofs.Ytallglnmeeahiaa
set_option linter.unusedVariables false
set_option linter.unusedSimpArgs false
def leadsOf (P : Program) (f : FuncId) : List FuncId := (P.funcs[f]?).elim [] P.leadsTo
def rankOk (P : Program) (T : List (FuncId × Nat)) : Bool :=
  T.all fun q => T.lookup q.1 == some q.2 && (leadsOf P q.1).all fun h => match T.lookup h with | some r => decide (r < q.2) | none => false
def plainAll (P : Program) (T : List (FuncId × Nat)) : Bool :=
  T.all fun q => !((P.funcs[q.1]?).any fun fn => match fn.body with | some c => c.unfollowed | none => entryCalls fn)
theorem via_sub {P : Program} {p : FuncId → Prop} (hp : ∀ f, p f → ∀ h ∈ leadsOf P f, p h) : ∀ (n : Nat) (todo seen : List FuncId), (∀ f ∈ todo, p f) → (∀ f ∈ seen, p f) → ∀ g ∈ P.closureVia n todo seen, p g
  | 0, _, seen, _, hs, g, hg => hs g (by simpa [Program.closureVia] using hg)
  | _ + 1, [], seen, _, hs, g, hg => hs g (by simpa [Program.closureVia] using hg)
  | n + 1, f :: todo, seen, ht, hs, g, hg => by
    rw [Program.closureVia] at hg
    split at hg
    · exact via_sub hp n todo seen (fun x hx => ht x (List.mem_cons_of_mem _ hx)) hs g hg
    · refine via_sub hp n _ _ (fun x hx => ?_) (fun x hx => ?_) g hg
      · rcases List.mem_append.1 hx with h | h
        · exact hp f (ht f (List.mem_cons_self ..)) x h
        · exact ht x (List.mem_cons_of_mem _ h)
      · rcases List.mem_cons.1 hx with rfl | h
        · exact ht x (List.mem_cons_self ..)
        · exact hs x h
theorem closure_sub {P : Program} {p : FuncId → Prop} (hp : ∀ f, p f → ∀ h ∈ leadsOf P f, p h) {f : FuncId} (hf : p f) : ∀ g ∈ P.closure f, p g := by
  unfold Program.closure
  exact via_sub hp _ _ _ (by simpa using hf) (by simp)
theorem lookup_mem {T : List (FuncId × Nat)} {x : FuncId} {r : Nat} (h : T.lookup x = some r) : (x, r) ∈ T := by
  induction T with
  | nil => simp at h
  | cons q T ih =>
    obtain ⟨a, b⟩ := q
    rw [List.lookup_cons] at h
    split at h
    · rename_i hx
      have e1 : x = a := by simpa using hx
      have e2 : b = r := by simpa using h
      subst e1 e2
      exact List.mem_cons_self ..
    · exact List.mem_cons_of_mem _ (ih h)
theorem rank_step {P : Program} {T : List (FuncId × Nat)} (hT : rankOk P T = true) {f : FuncId} {r : Nat} (hf : T.lookup f = some r) {h : FuncId} (hh : h ∈ leadsOf P f) : ∃ s, T.lookup h = some s ∧ s < r := by
  have h1 := List.all_eq_true.1 hT _ (lookup_mem hf)
  simp only [Bool.and_eq_true] at h1
  have h2 := List.all_eq_true.1 h1.2 h hh
  cases hl : T.lookup h with
  | none => rw [hl] at h2; cases h2
  | some s => rw [hl] at h2; exact ⟨s, rfl, by simpa using h2⟩
theorem rank_closure {P : Program} {T : List (FuncId × Nat)} (hT : rankOk P T = true) {f : FuncId} {r : Nat} (hf : T.lookup f = some r) : ∀ g ∈ P.closure f, ∃ s, T.lookup g = some s ∧ s ≤ r :=
  closure_sub (p := fun g => ∃ s, T.lookup g = some s ∧ s ≤ r) (fun x ⟨s, hs, hr⟩ h hh => by
    obtain ⟨t, ht, hlt⟩ := rank_step hT hs hh
    exact ⟨t, ht, by omega⟩) ⟨r, hf, Nat.le_refl _⟩
theorem unfollowed_no {P : Program} {T : List (FuncId × Nat)} {f : FuncId} {r : Nat} (hT : rankOk P T = true) (hp : plainAll P T = true) (hf : T.lookup f = some r) : P.unfollowed f = false := by
  rw [Program.unfollowed, List.any_eq_false]
  intro g hg
  obtain ⟨s, hs, _⟩ := rank_closure hT hf g hg
  have := List.all_eq_true.1 hp _ (lookup_mem hs)
  exact Bool.eq_false_iff.1 (Eq.mp (Bool.not_eq_true' _) this)
theorem recurses_no {P : Program} {T : List (FuncId × Nat)} {f : FuncId} {r : Nat} (hT : rankOk P T = true) (hp : plainAll P T = true) (hf : T.lookup f = some r) : P.recurses f = false := by
  rw [Program.recurses, unfollowed_no hT hp hf, Bool.false_or, List.any_eq_false]
  intro g hg
  obtain ⟨s, hs, _⟩ := rank_closure hT hf g hg
  rw [Bool.not_eq_true, List.any_eq_false]
  intro h hh
  obtain ⟨t, ht, hlt⟩ := rank_step hT hs hh
  intro hc
  have hm : g ∈ P.closure h := by simpa using hc
  obtain ⟨u, hu, hle⟩ := rank_closure hT ht g hm
  rw [hs] at hu
  injection hu with e
  omega
theorem recurses_yes {P : Program} {f : FuncId} (g h : FuncId) (h1 : (P.closure f).contains g = true) (h2 : (leadsOf P g).contains h = true) (h3 : (P.closure h).contains g = true) : P.recurses f = true := by
  rw [Program.recurses, Bool.or_eq_true]
  refine .inr (List.any_eq_true.2 ⟨g, by simpa using h1, List.any_eq_true.2 ⟨h, by simpa [leadsOf] using h2, h3⟩⟩)
end Go.Proofs.Ytallglnmeeahiaa

/- Facts on this seat's program as a whole that every row asks for: told once. -/
namespace Go.Proofs.Ytallglnmeeahiaa
set_option linter.unusedVariables false
set_option linter.unusedSimpArgs false
theorem seat_mayEnter : Try.pinned.checked.prog.mayEnter = true := by kernel_rfl
theorem seat_lifts : Try.pinned.checked.prog.liftsFinal = false := by kernel_rfl
theorem seat_laidOut : laidOutB Try.pinned.checked.prog = true := by kernel_rfl
theorem seat_mapsRowed : mapsRowed Try.pinned.checked.prog = true := by kernel_rfl
end Go.Proofs.Ytallglnmeeahiaa

