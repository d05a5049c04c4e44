/- Parts of the proof, joined into one text: FromI, HelpWalk, SrchJ. -/
import Derived.Test.YtpbfdmfkmbdpkaaGreatOnlyOKLGJAAM
import Derived.Test.YtpbfdmfkmbdpkaaGreatOnlyDNMGAIAE
import Derived.Test.YtpbfdmfkmbdpkaaGreatOnlyIHEJOAKK
import Derived.Test.YtpbfdmfkmbdpkaaGreatOnlyGDMDNJLD
namespace Go.Proofs.YtpbfdmfkmbdpkaaGreat
set_option linter.unusedVariables false
set_option linter.unusedSimpArgs false
open Go.ChangeShapes Go.WideShapes Go.ChangeAt Go.RowKit
attribute [local go_sem] ext_cell ext_frozen ext_lt ext_lt1 ext_lt2 ext_lt3 ltn2 ltn3 ltn13 lts1 lts2 lts3
theorem lit_nat (w : World) (e : TypeId) (x : Nat) : SlE (w.alloc (.cells #[.int .i64 (x : Int)] e)) cN 1 (.slice (some ⟨w.heap.size, 0, none⟩) 1 1) [x] := by
  have h := Own.of_row (xs := [x]) (E := cN) (World.ownsRow_lit (base := 0) (e := e) (size := 1) w #[.int .i64 (x : Int)] 1 (Nat.zero_le _) (by decide) rfl) rfl rfl
  exact (h.sl cN_len).all (Nat.le_refl _)
set_option maxHeartbeats 4000000 in
set_option maxRecDepth 100000 in
theorem implDistancesFrom (vg va : Value) (g : Gr) (a : Au) (x : Int) (w : World) (hgv : GrV 0 w.heap.size w vg g) (hav : AuV 0 w.heap.size w va a) :
    Calls Tryz.prog 92 #[vg, va, .int .i64 x] w fun e w' => ∃ v', e = .returned v' ∧ Own w.heap.size w'.heap.size w' 3 cI 1 v' (distFrom g a x) ∧ Below w.heap.size w w' := by
  have hgv0 := hgv
  have hav0 := hav
  obtain ⟨A1, n1, c1, A2, n2, c2, rfl⟩ := hgv.shape
  obtain ⟨ac, nx, rfl, hac, hnx⟩ := hav
  obtain ⟨A3, c3, rfl, -, -, -⟩ := SlE.form hac
  obtain ⟨A4, n4, c4, rfl⟩ := hnx.shape
  have hb0 : Below w.heap.size w ((w.alloc (.cells #[.slice A1 n1 c1, .slice A2 n2 c2] 36)).alloc (.cells #[.int .i64 a.start, .slice A3 a.accept.length c3, .slice A4 n4 c4] 38)) := ((Below.refl _ _).alloc (Nat.le_refl _) _).alloc (by simp) _
  have hb1 := hb0.alloc hb0.size (.cells #[.int .i64 x] 3)
  have hst : SlE (((w.alloc (.cells #[.slice A1 n1 c1, .slice A2 n2 c2] 36)).alloc (.cells #[.int .i64 a.start, .slice A3 a.accept.length c3, .slice A4 n4 c4] 38)).alloc (.cells #[.int .i64 x] 3)) cI 1 (.slice (some ⟨w.heap.size + 1 + 1, 0, none⟩) 1 1) [x] := by
    have h := lit_sl ((w.alloc (.cells #[.slice A1 n1 c1, .slice A2 n2 c2] 36)).alloc (.cells #[.int .i64 a.start, .slice A3 a.accept.length c3, .slice A4 n4 c4] 38)) 3 [x] (by unfold maxLen; simp)
    simpa using h
  have hbo := bothOk_any _ _ _ g a [x] _ (hgv0.keep hb1) (hav0.keep hb1) hst
  have HBO := Lib.hid hbo
  have HGV := Lib.hid hgv0
  have HAV := Lib.hid hav0
  clear hgv hac hnx hgv0 hav0 hbo hst
  cases hk : ([x].all (fun s => wi s 0 ((g.vals.length : Int) - 1)) && (grOk g && auOk a)) with
  | false =>
    rw [hk] at HBO
    have hfin : distFrom g a x = [] := by unfold distFrom; rw [if_neg]; simpa using hk
    have HF := Lib.hid hfin
    clear hk hfin
    go_enter Tryz.func92, Tryz.ntmps92
    go_wp2_with fail
    refine HBO.out.mono ?_
    rintro e w1 ⟨rfl, hb2⟩
    go_wp2_with fail
    go_ret
    exact ⟨_, rfl, by rw [HF.out]; exact Own.nil _ _ _ _ _ _, below_trans hb1 hb2⟩
  | true =>
    rw [hk] at HBO
    simp only [List.all_cons, List.all_nil, Bool.and_true, Bool.and_eq_true, wi_iff] at hk
    obtain ⟨⟨hx0, hx1⟩, hgo, hao⟩ := hk
    have hgo2 := grOk_iff.1 hgo
    obtain ⟨x, rfl⟩ := Int.eq_ofNat_of_zero_le hx0
    have hxl : x < g.vals.length := by omega
    obtain ⟨N, hN⟩ : ∃ N, N = g.vals.length * a.accept.length := ⟨_, rfl⟩
    have hn5 := hgo2.n5
    have hn1 := hgo2.n1
    obtain ⟨⟨hm1, hm12⟩, ⟨hst0, hst1⟩, -, -⟩ := auOk_iff.1 hao
    have hN60 : N ≤ 60 := by rw [hN]; have := Nat.mul_le_mul hn5 hm12; omega
    have hN1 : 1 ≤ N := by rw [hN]; exact Nat.mul_pos hn1 hm1
    obtain ⟨s, hs⟩ : ∃ s : Nat, a.start = (s : Int) := ⟨a.start.toNat, by omega⟩
    obtain ⟨xn, hxn⟩ : ∃ xn, xn = x * a.accept.length := ⟨_, rfl⟩
    have hxn2 : xn + a.accept.length ≤ N := by rw [hxn, hN]; have := Nat.mul_le_mul_right a.accept.length (show x + 1 ≤ g.vals.length by omega); rw [Nat.succ_mul] at this; exact this
    obtain ⟨S0, hS0⟩ : ∃ S0, S0 = xn + s := ⟨_, rfl⟩
    have hS0N : S0 < N := by omega
    have m1' : (x : Int) * (a.accept.length : Int) = (xn : Int) := by rw [hxn, Int.natCast_mul]
    have m1 : IntKind.i64.wrap ((x : Int) * (a.accept.length : Int)) = (xn : Int) := by rw [m1']; exact IntWalk.i64_in _ (by omega)
    have m2' : (xn : Int) + a.start = (S0 : Int) := by omega
    have m2 : IntKind.i64.wrap ((xn : Int) + a.start) = (S0 : Int) := by rw [m2']; exact IntWalk.i64_in _ (by omega)
    have m3 : IntKind.i64.wrap (xn : Int) = (xn : Int) := IntWalk.i64_in _ (by omega)
    have m4 : IntKind.i64.wrap (S0 : Int) = (S0 : Int) := IntWalk.i64_in _ (by omega)
    have hfin : distFrom g a (x : Int) = spreadR N (nextI g a) [S0] := by
      rw [distFrom, if_pos (by simp only [Bool.and_eq_true, wi_iff]; exact ⟨by omega, hgo, hao⟩), Int.toNat_natCast, ← hxn, ← hN, hs, Int.toNat_natCast, ← hS0]
    have hnl : ∀ i, i < N → ∀ k ∈ nextI g a i, k < N := fun i _ k hk => by rw [hN]; exact nextV_lt hgo2 hao hk
    have hfl : ∀ i ∈ [S0], i < N := by intro i hi; rw [List.mem_singleton] at hi; omega
    have HN := Lib.hid hN
    have HNL := Lib.hid hnl
    have HFL := Lib.hid hfl
    have HGO := Lib.hid hgo2
    have HAO := Lib.hid hao
    have HF := Lib.hid hfin
    have M1 := Lib.hid m1
    have M1' := Lib.hid m1'
    have M2 := Lib.hid m2
    have M2' := Lib.hid m2'
    have M3 := Lib.hid m3
    have M4 := Lib.hid m4
    clear hN hnl hfl hgo hgo2 hao hfin hx0 hx1 hs hxn hS0 m1 m1' m2 m2' m3 m4 hst0 hst1
    go_enter Tryz.func92, Tryz.ntmps92
    go_wp2_with fail
    refine HBO.out.mono ?_
    rintro e w1 ⟨rfl, hb2⟩
    have hb3 := below_trans hb1 hb2
    have b0 := (((Blk.new w 36 #[.slice A1 n1 c1, .slice A2 n2 c2] w.heap.size rfl).alloc (.cells #[.int .i64 a.start, .slice A3 a.accept.length c3, .slice A4 n4 c4] 38)).alloc (.cells #[.int .i64 (x : Int)] 3)).keep hb2
    have b1 := ((Blk.new (w.alloc (.cells #[.slice A1 n1 c1, .slice A2 n2 c2] 36)) 38 #[.int .i64 a.start, .slice A3 a.accept.length c3, .slice A4 n4 c4] (w.heap.size + 1) (by simp)).alloc (.cells #[.int .i64 (x : Int)] 3)).keep hb2
    have x0 : w1.cell? ⟨w.heap.size, 0, none⟩ = some (.slice A1 n1 c1) := by exact b0.cell 0
    have x1 : w1.cell? ⟨w.heap.size, 1, none⟩ = some (.slice A2 n2 c2) := by exact b0.cell 1
    have y0 : w1.cell? ⟨w.heap.size + 1, 0, none⟩ = some (.int .i64 a.start) := by exact b1.cell 0
    have y1 : w1.cell? ⟨w.heap.size + 1, 1, none⟩ = some (.slice A3 a.accept.length c3) := by exact b1.cell 1
    have y2 : w1.cell? ⟨w.heap.size + 1, 2, none⟩ = some (.slice A4 n4 c4) := by exact b1.cell 2
    clear hb0 hb1 hb2 b0 b1 HBO
    go_wp2_with fail
    have m1 := M1.out
    have m1' := M1'.out
    have m2 := M2.out
    have m2' := M2'.out
    have m3 := M3.out
    have m4 := M4.out
    refine F_start 13 (fun w' => w'.cell? ⟨w.heap.size, 0, none⟩ = some (.slice A1 n1 c1) ∧ w'.cell? ⟨w.heap.size, 1, none⟩ = some (.slice A2 n2 c2) ∧ w'.cell? ⟨w.heap.size + 1, 0, none⟩ = some (.int .i64 a.start) ∧ w'.cell? ⟨w.heap.size + 1, 1, none⟩ = some (.slice A3 a.accept.length c3) ∧ w'.cell? ⟨w.heap.size + 1, 2, none⟩ = some (.slice A4 n4 c4)) (by kernel_rfl) (by exact ⟨x0, x1, y0, y1, y2⟩) (fun hS inv => ?_)
    refine F_take (i := 0) (v := ?_) rfl (by kernel_rfl) (by kernel_rfl) (by kernel_rfl) (fun _ _ _ h => h) inv (Or.inl ⟨by rfl, ?_⟩) (by assumption) (fun invn => ?_)
    rotate_left
    · (intro w hSw; (try dsimp only at hSw); go_simp; try with_reducible rfl)
    try simp only [List.getElem_toArray, List.getElem_cons_zero, List.getElem_cons_succ, Act.put, List.setIfInBounds_toArray, List.set_cons_zero, List.set_cons_succ]
    clear inv
    have inv := invn
    clear invn
    refine F_take (i := 1) (v := ?_) rfl (by kernel_rfl) (by kernel_rfl) (by kernel_rfl) (fun _ _ _ h => h) inv (Or.inl ⟨by rfl, ?_⟩) (by assumption) (fun invn => ?_)
    rotate_left
    · (intro w hSw; (try dsimp only at hSw); go_simp; try with_reducible rfl)
    try simp only [List.getElem_toArray, List.getElem_cons_zero, List.getElem_cons_succ, Act.put, List.setIfInBounds_toArray, List.set_cons_zero, List.set_cons_succ]
    clear inv
    have inv := invn
    clear invn
    refine F_take (i := 3) (v := ?_) rfl (by kernel_rfl) (by kernel_rfl) (by kernel_rfl) (fun _ _ _ h => h) inv (Or.inl ⟨by rfl, ?_⟩) (by assumption) (fun invn => ?_)
    rotate_left
    · (intro w hSw; (try dsimp only at hSw); go_simp; try with_reducible rfl)
    try simp only [List.getElem_toArray, List.getElem_cons_zero, List.getElem_cons_succ, Act.put, List.setIfInBounds_toArray, List.set_cons_zero, List.set_cons_succ]
    clear inv
    have inv := invn
    clear invn
    refine F_take (i := 4) (v := ?_) rfl (by kernel_rfl) (by kernel_rfl) (by kernel_rfl) (fun _ _ _ h => h) inv (Or.inl ⟨by rfl, ?_⟩) (by assumption) (fun invn => ?_)
    rotate_left
    · (intro w hSw; (try dsimp only at hSw); go_simp; try with_reducible rfl)
    try simp only [List.getElem_toArray, List.getElem_cons_zero, List.getElem_cons_succ, Act.put, List.setIfInBounds_toArray, List.set_cons_zero, List.set_cons_succ]
    clear inv
    have inv := invn
    clear invn
    refine F_take (i := 5) (v := ?_) rfl (by kernel_rfl) (by kernel_rfl) (by kernel_rfl) (fun _ _ _ h => h) inv (Or.inl ⟨by rfl, ?_⟩) (by assumption) (fun invn => ?_)
    rotate_left
    · (intro w hSw; (try dsimp only at hSw); go_simp; try with_reducible rfl)
    try simp only [List.getElem_toArray, List.getElem_cons_zero, List.getElem_cons_succ, Act.put, List.setIfInBounds_toArray, List.set_cons_zero, List.set_cons_succ]
    clear inv
    have inv := invn
    clear invn
    refine F_take (i := 6) (v := ?_) rfl (by kernel_rfl) (by kernel_rfl) (by kernel_rfl) (fun _ _ _ h => h) inv (Or.inl ⟨by rfl, ?_⟩) (by assumption) (fun invn => ?_)
    rotate_left
    · (intro w hSw; (try dsimp only at hSw); go_simp; try with_reducible rfl)
    try simp only [List.getElem_toArray, List.getElem_cons_zero, List.getElem_cons_succ, Act.put, List.setIfInBounds_toArray, List.set_cons_zero, List.set_cons_succ]
    clear inv
    have inv := invn
    clear invn
    refine F_take (i := 7) (v := ?_) rfl (by kernel_rfl) (by kernel_rfl) (by kernel_rfl) (fun _ _ _ h => h) inv (Or.inl ⟨by rfl, ?_⟩) (by assumption) (fun invn => ?_)
    rotate_left
    · (intro w hSw; (try dsimp only at hSw); go_simp; try with_reducible rfl)
    try simp only [List.getElem_toArray, List.getElem_cons_zero, List.getElem_cons_succ, Act.put, List.setIfInBounds_toArray, List.set_cons_zero, List.set_cons_succ]
    clear inv
    have inv := invn
    clear invn
    refine F_take (i := 8) (v := ?_) rfl (by kernel_rfl) (by kernel_rfl) (by kernel_rfl) (fun _ _ _ h => h) inv (Or.inl ⟨by rfl, ?_⟩) (by assumption) (fun invn => ?_)
    rotate_left
    · (intro w hSw; (try dsimp only at hSw); go_simp; try with_reducible rfl)
    try simp only [List.getElem_toArray, List.getElem_cons_zero, List.getElem_cons_succ, Act.put, List.setIfInBounds_toArray, List.set_cons_zero, List.set_cons_succ]
    clear inv
    have inv := invn
    clear invn
    refine F_take (i := 9) (v := ?_) rfl (by kernel_rfl) (by kernel_rfl) (by kernel_rfl) (fun _ _ _ h => h) inv (Or.inl ⟨by rfl, ?_⟩) (by assumption) (fun invn => ?_)
    rotate_left
    · (intro w hSw; (try dsimp only at hSw); go_simp; try with_reducible rfl)
    try simp only [List.getElem_toArray, List.getElem_cons_zero, List.getElem_cons_succ, Act.put, List.setIfInBounds_toArray, List.set_cons_zero, List.set_cons_succ]
    clear inv
    have inv := invn
    clear invn
    refine F_take (i := 10) (v := ?_) rfl (by kernel_rfl) (by kernel_rfl) (by kernel_rfl) (fun _ _ _ h => h) inv (Or.inl ⟨by rfl, ?_⟩) (by assumption) (fun invn => ?_)
    rotate_left
    · (intro w hSw; (try dsimp only at hSw); go_simp; try with_reducible rfl)
    try simp only [List.getElem_toArray, List.getElem_cons_zero, List.getElem_cons_succ, Act.put, List.setIfInBounds_toArray, List.set_cons_zero, List.set_cons_succ]
    clear inv
    have inv := invn
    clear invn
    refine F_two (i := 2) (j := 11) (by kernel_rfl) rfl rfl rfl rfl (by omega) inv (fun K hK => ?_) (fun K hK => ?_)
    all_goals (try simp only [List.getElem_toArray, List.getElem_cons_zero, List.getElem_cons_succ])
    · go_simp
      refine (nextVertices_any _ _ g a _ (GrV.keep (w' := w1.drew) HGV.out hb3.drew) (AuV.keep (w' := w1.drew) HAV.out hb3.drew) HGO.out HAO.out).mono ?_
      rintro e wA ⟨vA, rfl, hsA, hbA⟩
      rw [← HN.out] at hsA
      refine hK.out _ _ (kB5 hbA hS) (fun hSn invn => ?_)
      try simp only [List.getElem_toArray, List.getElem_cons_zero, List.getElem_cons_succ, Act.put, List.setIfInBounds_toArray, List.set_cons_zero, List.set_cons_succ]
      clear hK K inv hS
      have inv := invn
      have hS := hSn
      clear invn hSn
      refine F_one (i := 11) (by kernel_rfl) rfl rfl (by omega) inv (fun K hK => ?_)
      try simp only [List.getElem_toArray, List.getElem_cons_zero, List.getElem_cons_succ]
      go_simp
      refine hK.out _ _ (kA5 _ hS) (fun hSn invn => ?_)
      try simp only [List.getElem_toArray, List.getElem_cons_zero, List.getElem_cons_succ, Act.put, List.setIfInBounds_toArray, List.set_cons_zero, List.set_cons_succ]
      clear hK K inv hS
      have inv := invn
      have hS := hSn
      clear invn hSn
      refine F_one (i := 12) (by kernel_rfl) rfl rfl (by omega) inv (fun K hK => ?_)
      try simp only [List.getElem_toArray, List.getElem_cons_zero, List.getElem_cons_succ]
      go_simp
      refine (spread_any vA _ N (nextI g a) [S0] _ ((hsA.mono (Nat.zero_le _) (Nat.le_refl _)).keep ((Below.refl _ _).alloc (Nat.le_refl _) _)) (lit_nat wA _ S0) hN1 hN60 (by simp) HFL.out HNL.out).mono ?_
      rintro e wD ⟨vD, rfl, hoD, hbD⟩
      have hbF := below_trans hb3.drew (below_trans hbA (below_trans ((Below.refl wA.heap.size wA).alloc (Nat.le_refl _) _) hbD))
      have hsz := (below_trans hb3.drew (below_trans hbA ((Below.refl wA.heap.size wA).alloc (Nat.le_refl _) (.cells #[.int .i64 (S0 : Int)] 3)))).size
      have hoF := hoD.mono hsz (Nat.le_refl _)
      rw [← HF.out] at hoF
      have HOF := Lib.hid hoF
      obtain ⟨A5, n5', c5, rfl⟩ := hoD.shape
      clear hoF
      refine hK.out _ _ (kB5 hbD hS) (fun hSn invn => ?_)
      try simp only [List.getElem_toArray, List.getElem_cons_zero, List.getElem_cons_succ, Act.put, List.setIfInBounds_toArray, List.set_cons_zero, List.set_cons_succ]
      clear hK K inv hS
      have inv := invn
      have hS := hSn
      clear invn hSn
      refine F_last (i := 13) (by kernel_rfl) rfl rfl (by omega) (by kernel_rfl) (fun K hK => ?_)
      go_simp
      refine hK _ _ ?_
      clear hK K inv hS
      clear m1 m1' m2 m2' m3 m4
      go_wp2_with fail
      go_ret
      exact ⟨_, rfl, HOF.out, hbF⟩
    · go_simp
      have hsA0 := lit_nat w1.drew 3 S0
      have hba := (Below.refl w1.drew.heap.size w1.drew).alloc (Nat.le_refl _) (.cells #[.int .i64 (S0 : Int)] 3)
      have hbz := below_trans hb3.drew hba
      refine hK.out _ _ (kA5 _ hS) (fun hSn invn => ?_)
      try simp only [List.getElem_toArray, List.getElem_cons_zero, List.getElem_cons_succ, Act.put, List.setIfInBounds_toArray, List.set_cons_zero, List.set_cons_succ]
      clear hK K inv hS
      have inv := invn
      have hS := hSn
      clear invn hSn
      refine F_one (i := 2) (by kernel_rfl) rfl rfl (by omega) inv (fun K hK => ?_)
      try simp only [List.getElem_toArray, List.getElem_cons_zero, List.getElem_cons_succ]
      go_simp
      refine (nextVertices_any _ _ g a _ (HGV.out.keep hbz) (HAV.out.keep hbz) HGO.out HAO.out).mono ?_
      rintro e wA ⟨vA, rfl, hsA, hbA⟩
      rw [← HN.out] at hsA
      refine hK.out _ _ (kB5 hbA hS) (fun hSn invn => ?_)
      try simp only [List.getElem_toArray, List.getElem_cons_zero, List.getElem_cons_succ, Act.put, List.setIfInBounds_toArray, List.set_cons_zero, List.set_cons_succ]
      clear hK K inv hS
      have inv := invn
      have hS := hSn
      clear invn hSn
      refine F_one (i := 12) (by kernel_rfl) rfl rfl (by omega) inv (fun K hK => ?_)
      try simp only [List.getElem_toArray, List.getElem_cons_zero, List.getElem_cons_succ]
      go_simp
      refine (spread_any vA _ N (nextI g a) [S0] _ (hsA.mono (Nat.zero_le _) (Nat.le_refl _)) (SlE.keep hsA0 hbA) hN1 hN60 (by simp) HFL.out HNL.out).mono ?_
      rintro e wD ⟨vD, rfl, hoD, hbD⟩
      have hbF := below_trans (below_trans hbz hbA) hbD
      have hoF := hoD.mono (below_trans hbz hbA).size (Nat.le_refl _)
      rw [← HF.out] at hoF
      have HOF := Lib.hid hoF
      obtain ⟨A5, n5', c5, rfl⟩ := hoD.shape
      clear hoF
      refine hK.out _ _ (kB5 hbD hS) (fun hSn invn => ?_)
      try simp only [List.getElem_toArray, List.getElem_cons_zero, List.getElem_cons_succ, Act.put, List.setIfInBounds_toArray, List.set_cons_zero, List.set_cons_succ]
      clear hK K inv hS
      have inv := invn
      have hS := hSn
      clear invn hSn
      refine F_last (i := 13) (by kernel_rfl) rfl rfl (by omega) (by kernel_rfl) (fun K hK => ?_)
      go_simp
      refine hK _ _ ?_
      clear hK K inv hS
      clear m1 m1' m2 m2' m3 m4
      go_wp2_with fail
      go_ret
      exact ⟨_, rfl, HOF.out, hbF⟩
end Go.Proofs.YtpbfdmfkmbdpkaaGreat
namespace Go.Proofs.YtpbfdmfkmbdpkaaGreat
set_option linter.unusedVariables false
set_option linter.unusedSimpArgs false
open Go.ChangeShapes Go.WideShapes Go.ChangeAt Go.RowKit
attribute [local go_sem] ext_cell ext_frozen ext_lt ext_lt1 ext_lt2 ext_lt3 ltn2 ltn3 ltn13 lts1 lts2 lts3
def WkO (lo hi : Nat) (w : World) (v : Value) (k : Wk) : Prop :=
  ∃ ss, v = .agg #[.int .i64 k.1, ss] ∧ Own lo hi w 86 cSt 2 ss k.2
theorem WkO.view {lo hi : Nat} {w : World} {v : Value} {k : Wk} (h : WkO lo hi w v k) : WkV lo hi w v k := by
  obtain ⟨ss, rfl, h1⟩ := h
  exact ⟨ss, rfl, h1.sl cSt_len⟩
theorem WkO.below {lo hi : Nat} {w w' : World} {v : Value} {k : Wk} (h : WkO lo hi w v k) {B : Nat} (hb : Below B w w') (hB : hi ≤ B) : WkO lo hi w' v k := by
  obtain ⟨ss, rfl, h1⟩ := h
  exact ⟨ss, rfl, h1.below hb hB⟩
theorem WkO.only {lo hi : Nat} {w w' : World} {v : Value} {k : Wk} (h : WkO lo hi w v k) {l r : Nat} (hb : Only l r w w') (ho : hi ≤ l ∨ r ≤ lo) : WkO lo hi w' v k := by
  obtain ⟨ss, rfl, h1⟩ := h
  exact ⟨ss, rfl, h1.only hb ho⟩
theorem WkO.mono {lo hi : Nat} {w : World} {v : Value} {k : Wk} (h : WkO lo hi w v k) {lo' hi' : Nat} (h1 : lo' ≤ lo) (h2 : hi ≤ hi') : WkO lo' hi' w v k := by
  obtain ⟨ss, rfl, g1⟩ := h
  exact ⟨ss, rfl, g1.mono h1 h2⟩
end Go.Proofs.YtpbfdmfkmbdpkaaGreat
namespace Go.Proofs.YtpbfdmfkmbdpkaaGreat
set_option linter.unusedVariables false
set_option linter.unusedSimpArgs false
open Go.ChangeShapes Go.WideShapes Go.ChangeAt Go.RowKit
attribute [local go_sem] ext_cell ext_frozen ext_lt ext_lt1 ext_lt2 ext_lt3 ltn2 ltn3 ltn13 lts1 lts2 lts3
/-- what a search's calls ask of the world behind its box -/
theorem visit_hyp {g : Gr} {a : Au} {D : List Int} {w wF W1 : World} {bT : Nat} {vg va v dv : Value} {xss : List (List Arc)} (hT : bT = wF.heap.size) (hbn : Below wF.heap.size wF W1) (hb : Below w.heap.size w wF) (hgv : GrV 0 w.heap.size w vg g) (hav : AuV 0 w.heap.size w va a)
    (hsa : SSE 0 wF.heap.size wF cA 4 v xss) (hd : SlE wF cI 1 dv D) : GrV 0 bT W1 vg g ∧ AuV 0 bT W1 va a ∧ SSE 0 bT W1 cA 4 v xss ∧ SlI 0 bT W1 cI 1 dv D := by
  subst hT
  exact ⟨(hgv.keep hb).below hbn (Nat.le_refl _), (hav.keep hb).below hbn (Nat.le_refl _), hsa.below hbn (Nat.le_refl _), SlI.below hd hbn (Nat.le_refl _)⟩
set_option maxHeartbeats 16000000 in
set_option maxRecDepth 100000 in
theorem implSearchTrail (vg va : Value) (g : Gr) (a : Au) (x y BI : Int) (w : World) (hgv : GrV 0 w.heap.size w vg g) (hav : AuV 0 w.heap.size w va a) :
    Calls Tryz.prog 72 #[vg, va, .int .i64 x, .int .i64 y, .int .i64 BI] w fun e w' => ∃ v', e = .returned (.tuple #[v', .int .i64 (srchL g a x y BI false).2]) ∧ WkO w.heap.size w'.heap.size w' v' (srchL g a x y BI false).1 ∧ Below w.heap.size w w' := by
  have hgv0 := hgv
  have hav0 := hav
  obtain ⟨A1, c1, A2, c2, rfl, hl1, hm1, hl2, hm2, -, -⟩ := hgv.form
  obtain ⟨R, hR⟩ : ∃ R, R = srchL g a x y BI false := ⟨_, rfl⟩
  rw [← hR]
  cases hbo2 : ([x, y].all (fun s => wi s 0 ((g.vals.length : Int) - 1)) && (grOk g && auOk a)) with
  | false =>
    have hc : cntOk g a x y = false := by simpa [cntOk, Bool.and_assoc] using hbo2
    have hfin : R = ((0, []), 0) := by rw [hR, srchL, if_neg]; rw [srchOk, hc]; simp
    obtain ⟨ac, nx, rfl, hac, hnx⟩ := hav
    obtain ⟨A3, c3, rfl, -, -, -⟩ := SlE.form hac
    obtain ⟨A4, n4, c4, rfl⟩ := hnx.shape
    have hb0 : Below w.heap.size w (((w.alloc (.cells #[.slice A1 g.vals.length c1, .slice A2 g.edges.length c2] 36)).alloc (.cells #[.int .i64 a.start, .slice A3 a.accept.length c3, .slice A4 n4 c4] 38)).alloc (.cells #[.int .i64 0, .slice none 0 0] 59)) := (((Below.refl _ _).alloc (Nat.le_refl _) _).alloc (by simp) _).alloc (by simp; omega) _
    have hb1 := hb0.alloc hb0.size (.cells #[.int .i64 x, .int .i64 y] 3)
    have hst : SlE ((((w.alloc (.cells #[.slice A1 g.vals.length c1, .slice A2 g.edges.length c2] 36)).alloc (.cells #[.int .i64 a.start, .slice A3 a.accept.length c3, .slice A4 n4 c4] 38)).alloc (.cells #[.int .i64 0, .slice none 0 0] 59)).alloc (.cells #[.int .i64 x, .int .i64 y] 3)) cI 1 (.slice (some ⟨w.heap.size + 1 + 1 + 1, 0, none⟩) 2 2) [x, y] := by
      have h := lit_sl (((w.alloc (.cells #[.slice A1 g.vals.length c1, .slice A2 g.edges.length c2] 36)).alloc (.cells #[.int .i64 a.start, .slice A3 a.accept.length c3, .slice A4 n4 c4] 38)).alloc (.cells #[.int .i64 0, .slice none 0 0] 59)) 3 [x, y] (by unfold maxLen; simp)
      simpa using h
    have HBO := Lib.hid (bothOk_any _ _ _ g a [x, y] _ (hgv0.keep hb1) (hav0.keep hb1) hst)
    have HB1 := Lib.hid hb1
    have hbR := (Blk.new ((w.alloc (.cells #[.slice A1 g.vals.length c1, .slice A2 g.edges.length c2] 36)).alloc (.cells #[.int .i64 a.start, .slice A3 a.accept.length c3, .slice A4 n4 c4] 38)) 59 #[.int .i64 0, .slice none 0 0] (w.heap.size + 1 + 1) (by simp)).alloc (.cells #[.int .i64 x, .int .i64 y] 3)
    have hbG := (((Blk.new w 36 #[.slice A1 g.vals.length c1, .slice A2 g.edges.length c2] w.heap.size rfl).alloc (.cells #[.int .i64 a.start, .slice A3 a.accept.length c3, .slice A4 n4 c4] 38)).alloc (.cells #[.int .i64 0, .slice none 0 0] 59)).alloc (.cells #[.int .i64 x, .int .i64 y] 3)
    have hbA := ((Blk.new (w.alloc (.cells #[.slice A1 g.vals.length c1, .slice A2 g.edges.length c2] 36)) 38 #[.int .i64 a.start, .slice A3 a.accept.length c3, .slice A4 n4 c4] (w.heap.size + 1) (by simp)).alloc (.cells #[.int .i64 0, .slice none 0 0] 59)).alloc (.cells #[.int .i64 x, .int .i64 y] 3)
    have HBR := Lib.hid hbR
    have HBG := Lib.hid hbG
    have HBA := Lib.hid hbA
    clear hb0 hb1 hst hbR hbG hbA
    rw [hbo2] at HBO
    have HF := Lib.hid hfin
    clear hgv hac hnx hgv0 hav0 hbo2 hc hfin hR
    go_enter Tryz.func72, Tryz.ntmps72
    go_wp2_with fail
    refine HBO.out.mono ?_
    rintro e w1 ⟨rfl, hb2⟩
    have bR := HBR.out.keep hb2
    have z0 : w1.cell? ⟨w.heap.size + 1 + 1, 0, none⟩ = some (.int .i64 0) := bR.cell 0
    have z1 : w1.cell? ⟨w.heap.size + 1 + 1, 1, none⟩ = some (.slice none 0 0) := bR.cell 1
    have fz0 := bR.frozen 0
    have fz1 := bR.frozen 1
    have lz := bR.lt
    have HBV := Lib.hid (below_trans HB1.out hb2)
    clear bR HBR HBG HBA
    go_wp2_with fail
    refine bodyPost_ret (v := .tuple #[.agg #[.int .i64 0, .slice none 0 0], .int .i64 0]) (by simp [results, Tryz.results72, go_sem, z0, z1]) rfl ⟨_, by rw [HF.out], ?_, (HBV.out.setCell (p := ⟨w.heap.size + 1 + 1, 0, none⟩) (by simp only; omega) _).setCell (p := ⟨w.heap.size + 1 + 1, 1, none⟩) (by simp only; omega) _⟩
    rw [HF.out]
    exact ⟨_, rfl, Own.nil _ _ _ _ _ _⟩
  | true =>
    simp only [List.all_cons, List.all_nil, Bool.and_true] at hbo2
    have hbo3 := hbo2
    simp only [Bool.and_eq_true] at hbo3
    obtain ⟨⟨hx, hy⟩, hgo, hao⟩ := hbo3
    have hck : cntOk g a x y = true := by rw [cntOk, hx, hy, hgo, hao]; rfl
    obtain ⟨A3, c3, A4, c4, rfl, -, -, -, -, -⟩ := hav.form hao
    cases hwB : wi BI 1 20000 with
    | false =>
      have hfin : R = ((0, []), 0) := by rw [hR, srchL, if_neg]; rw [srchOk, hwB]; simp
      have hb0 : Below w.heap.size w (((w.alloc (.cells #[.slice A1 g.vals.length c1, .slice A2 g.edges.length c2] 36)).alloc (.cells #[.int .i64 a.start, .slice A3 a.accept.length c3, .slice A4 a.accept.length c4] 38)).alloc (.cells #[.int .i64 0, .slice none 0 0] 59)) := (((Below.refl _ _).alloc (Nat.le_refl _) _).alloc (by simp) _).alloc (by simp; omega) _
      have hb1 := hb0.alloc hb0.size (.cells #[.int .i64 x, .int .i64 y] 3)
      have hst : SlE ((((w.alloc (.cells #[.slice A1 g.vals.length c1, .slice A2 g.edges.length c2] 36)).alloc (.cells #[.int .i64 a.start, .slice A3 a.accept.length c3, .slice A4 a.accept.length c4] 38)).alloc (.cells #[.int .i64 0, .slice none 0 0] 59)).alloc (.cells #[.int .i64 x, .int .i64 y] 3)) cI 1 (.slice (some ⟨w.heap.size + 1 + 1 + 1, 0, none⟩) 2 2) [x, y] := by
        have h := lit_sl (((w.alloc (.cells #[.slice A1 g.vals.length c1, .slice A2 g.edges.length c2] 36)).alloc (.cells #[.int .i64 a.start, .slice A3 a.accept.length c3, .slice A4 a.accept.length c4] 38)).alloc (.cells #[.int .i64 0, .slice none 0 0] 59)) 3 [x, y] (by unfold maxLen; simp)
        simpa using h
      have HBO := Lib.hid (bothOk_any _ _ _ g a [x, y] _ (hgv0.keep hb1) (hav0.keep hb1) hst)
      have HB1 := Lib.hid hb1
      have hbR := (Blk.new ((w.alloc (.cells #[.slice A1 g.vals.length c1, .slice A2 g.edges.length c2] 36)).alloc (.cells #[.int .i64 a.start, .slice A3 a.accept.length c3, .slice A4 a.accept.length c4] 38)) 59 #[.int .i64 0, .slice none 0 0] (w.heap.size + 1 + 1) (by simp)).alloc (.cells #[.int .i64 x, .int .i64 y] 3)
      have hbG := (((Blk.new w 36 #[.slice A1 g.vals.length c1, .slice A2 g.edges.length c2] w.heap.size rfl).alloc (.cells #[.int .i64 a.start, .slice A3 a.accept.length c3, .slice A4 a.accept.length c4] 38)).alloc (.cells #[.int .i64 0, .slice none 0 0] 59)).alloc (.cells #[.int .i64 x, .int .i64 y] 3)
      have hbA := ((Blk.new (w.alloc (.cells #[.slice A1 g.vals.length c1, .slice A2 g.edges.length c2] 36)) 38 #[.int .i64 a.start, .slice A3 a.accept.length c3, .slice A4 a.accept.length c4] (w.heap.size + 1) (by simp)).alloc (.cells #[.int .i64 0, .slice none 0 0] 59)).alloc (.cells #[.int .i64 x, .int .i64 y] 3)
      have HBR := Lib.hid hbR
      have HBG := Lib.hid hbG
      have HBA := Lib.hid hbA
      clear hb0 hb1 hst hbR hbG hbA
      simp only [List.all_cons, List.all_nil, Bool.and_true] at HBO
      rw [hbo2] at HBO
      have HF := Lib.hid hfin
      have HW := Lib.hid (fun W => within_any BI 1 20000 W)
      rw [hwB] at HW
      clear hgv hav hgv0 hav0 hbo2 hck hfin hR hx hy hgo hao hwB
      go_enter Tryz.func72, Tryz.ntmps72
      go_wp2_with fail
      refine HBO.out.mono ?_
      rintro e w1 ⟨rfl, hb2⟩
      go_wp2_with fail
      refine (HW.out _).mono ?_
      rintro e w9 ⟨rfl, hw9⟩
      rw [hw9]
      clear hw9
      have bR := HBR.out.keep hb2
      have z0 : w1.cell? ⟨w.heap.size + 1 + 1, 0, none⟩ = some (.int .i64 0) := bR.cell 0
      have z1 : w1.cell? ⟨w.heap.size + 1 + 1, 1, none⟩ = some (.slice none 0 0) := bR.cell 1
      have fz0 := bR.frozen 0
      have fz1 := bR.frozen 1
      have lz := bR.lt
      have HBV := Lib.hid (below_trans HB1.out hb2)
      clear bR HBR HBG HBA
      go_wp2_with fail
      refine bodyPost_ret (v := .tuple #[.agg #[.int .i64 0, .slice none 0 0], .int .i64 0]) (by simp [results, Tryz.results72, go_sem, z0, z1]) rfl ⟨_, by rw [HF.out], ?_, (HBV.out.setCell (p := ⟨w.heap.size + 1 + 1, 0, none⟩) (by simp only; omega) _).setCell (p := ⟨w.heap.size + 1 + 1, 1, none⟩) (by simp only; omega) _⟩
      rw [HF.out]
      exact ⟨_, rfl, Own.nil _ _ _ _ _ _⟩
    | true =>
      rw [wi_iff] at hx hy
      have hwB2 := wi_iff.1 hwB
      have hgo2 := grOk_iff.1 hgo
      obtain ⟨x, rfl⟩ := Int.eq_ofNat_of_zero_le hx.1
      obtain ⟨B, rfl⟩ := Int.eq_ofNat_of_zero_le (show 0 ≤ BI by omega)
      have hxl : x < g.vals.length := by omega
      have hn5 := hgo2.n5
      have he12 := hgo2.e12
      obtain ⟨⟨hm1', hm12⟩, ⟨hst0, hst1⟩, -, -⟩ := auOk_iff.1 hao
      obtain ⟨s, hs⟩ : ∃ s : Nat, a.start = (s : Int) := ⟨a.start.toNat, by omega⟩
      have hsl : s < a.accept.length := by omega
      have hfin : R = srchF g a y B (distTo g a y) false x (bit s) (srchU false x) (srchN g false) 0 0 := by
        rw [hR, srchL, if_pos (by rw [srchOk, hck, hwB]; rfl), hs]; rfl
      have hb0 : Below w.heap.size w (((w.alloc (.cells #[.slice A1 g.vals.length c1, .slice A2 g.edges.length c2] 36)).alloc (.cells #[.int .i64 a.start, .slice A3 a.accept.length c3, .slice A4 a.accept.length c4] 38)).alloc (.cells #[.int .i64 0, .slice none 0 0] 59)) := (((Below.refl _ _).alloc (Nat.le_refl _) _).alloc (by simp) _).alloc (by simp; omega) _
      have hb1 := hb0.alloc hb0.size (.cells #[.int .i64 (x : Int), .int .i64 y] 3)
      have hst : SlE ((((w.alloc (.cells #[.slice A1 g.vals.length c1, .slice A2 g.edges.length c2] 36)).alloc (.cells #[.int .i64 a.start, .slice A3 a.accept.length c3, .slice A4 a.accept.length c4] 38)).alloc (.cells #[.int .i64 0, .slice none 0 0] 59)).alloc (.cells #[.int .i64 (x : Int), .int .i64 y] 3)) cI 1 (.slice (some ⟨w.heap.size + 1 + 1 + 1, 0, none⟩) 2 2) [(x : Int), y] := by
        have h := lit_sl (((w.alloc (.cells #[.slice A1 g.vals.length c1, .slice A2 g.edges.length c2] 36)).alloc (.cells #[.int .i64 a.start, .slice A3 a.accept.length c3, .slice A4 a.accept.length c4] 38)).alloc (.cells #[.int .i64 0, .slice none 0 0] 59)) 3 [(x : Int), y] (by unfold maxLen; simp)
        simpa using h
      have HBO := Lib.hid (bothOk_any _ _ _ g a [(x : Int), y] _ (hgv0.keep hb1) (hav0.keep hb1) hst)
      have HB1 := Lib.hid hb1
      have hbR := (Blk.new ((w.alloc (.cells #[.slice A1 g.vals.length c1, .slice A2 g.edges.length c2] 36)).alloc (.cells #[.int .i64 a.start, .slice A3 a.accept.length c3, .slice A4 a.accept.length c4] 38)) 59 #[.int .i64 0, .slice none 0 0] (w.heap.size + 1 + 1) (by simp)).alloc (.cells #[.int .i64 (x : Int), .int .i64 y] 3)
      have hbG := (((Blk.new w 36 #[.slice A1 g.vals.length c1, .slice A2 g.edges.length c2] w.heap.size rfl).alloc (.cells #[.int .i64 a.start, .slice A3 a.accept.length c3, .slice A4 a.accept.length c4] 38)).alloc (.cells #[.int .i64 0, .slice none 0 0] 59)).alloc (.cells #[.int .i64 (x : Int), .int .i64 y] 3)
      have hbA := ((Blk.new (w.alloc (.cells #[.slice A1 g.vals.length c1, .slice A2 g.edges.length c2] 36)) 38 #[.int .i64 a.start, .slice A3 a.accept.length c3, .slice A4 a.accept.length c4] (w.heap.size + 1) (by simp)).alloc (.cells #[.int .i64 0, .slice none 0 0] 59)).alloc (.cells #[.int .i64 (x : Int), .int .i64 y] 3)
      have HBR := Lib.hid hbR
      have HBG := Lib.hid hbG
      have HBA := Lib.hid hbA
      clear hb0 hb1 hst hbR hbG hbA
      simp only [List.all_cons, List.all_nil, Bool.and_true] at HBO
      rw [hbo2] at HBO
      have HW := Lib.hid (fun W => within_any (B : Int) 1 20000 W)
      rw [hwB] at HW
      have HF := Lib.hid hfin
      have HGV := Lib.hid hgv0
      have HAV := Lib.hid hav0
      have HGO := Lib.hid hgo
      have HAO := Lib.hid hao
      have HDL := Lib.hid (distTo_len (g := g) (a := a) (y := y) (by rw [wi_iff.2 hy, hgo, hao]; rfl))
      have hbs := bit_lt hsl
      have HBS := Lib.hid hbs
      have e1 := Lib.hid (shl_bit (s := s) (by omega))
      have e2 := Lib.hid (shl_bit2 (s := s) (by omega))
      have e3 := Lib.hid (shl_bit3 (s := s) (by omega))
      have hB1 : 1 ≤ B := by omega
      have hB2 : B ≤ 20000 := by omega
      have HST := Lib.hid hs
      clear hgv hav hgv0 hav0 hbo2 hck hfin hR hx hy hgo hao hwB hgo2 hst0 hst1 hbs hwB2 hs
      go_enter Tryz.func72, Tryz.ntmps72
      go_wp2_with fail
      refine HBO.out.mono ?_
      rintro e w1 ⟨rfl, hb2⟩
      have hb3 := below_trans HB1.out hb2
      have bR := HBR.out.keep hb2
      have bG := HBG.out.keep hb2
      have bA := HBA.out.keep hb2
      have x0 : w1.cell? ⟨w.heap.size, 0, none⟩ = some (.slice A1 g.vals.length c1) := by exact bG.cell 0
      have x1 : w1.cell? ⟨w.heap.size, 1, none⟩ = some (.slice A2 g.edges.length c2) := by exact bG.cell 1
      have y0 : w1.cell? ⟨w.heap.size + 1, 0, none⟩ = some (.int .i64 a.start) := by exact bA.cell 0
      have y1 : w1.cell? ⟨w.heap.size + 1, 1, none⟩ = some (.slice A3 a.accept.length c3) := by exact bA.cell 1
      have y2 : w1.cell? ⟨w.heap.size + 1, 2, none⟩ = some (.slice A4 a.accept.length c4) := by exact bA.cell 2
      have HBR1 := Lib.hid bR
      have HBW := Lib.hid hb3
      have lR := bR.lt
      clear bG bA bR hb2 HBO HB1 HBR HBG HBA hb3
      go_wp2_with fail
      refine (HW.out _).mono ?_
      rintro e w9 ⟨rfl, hw9⟩
      rw [hw9]
      clear hw9 HW
      go_wp2_with fail
      have hb3 := HBW.out
      refine F_start 12 (fun w' => w'.cell? ⟨w.heap.size, 0, none⟩ = some (.slice A1 g.vals.length c1) ∧ w'.cell? ⟨w.heap.size, 1, none⟩ = some (.slice A2 g.edges.length c2) ∧ w'.cell? ⟨w.heap.size + 1, 0, none⟩ = some (.int .i64 a.start) ∧ w'.cell? ⟨w.heap.size + 1, 1, none⟩ = some (.slice A3 a.accept.length c3) ∧ w'.cell? ⟨w.heap.size + 1, 2, none⟩ = some (.slice A4 a.accept.length c4)) (by kernel_rfl) (by exact ⟨x0, x1, y0, y1, y2⟩) (fun hS inv => ?_)
      refine F_take (i := 0) (v := ?_) rfl (by kernel_rfl) (by kernel_rfl) (by kernel_rfl) (fun _ _ _ h => h) inv (Or.inl ⟨by rfl, ?_⟩) (by assumption) (fun invn => ?_)
      rotate_left
      · (intro w hSw; (try dsimp only at hSw); go_simp; try with_reducible rfl)
      try simp only [List.getElem_toArray, List.getElem_cons_zero, List.getElem_cons_succ, Act.put, List.setIfInBounds_toArray, List.set_cons_zero, List.set_cons_succ]
      clear inv
      have inv := invn
      clear invn
      refine F_take (i := 1) (v := ?_) rfl (by kernel_rfl) (by kernel_rfl) (by kernel_rfl) (fun _ _ _ h => h) inv (Or.inl ⟨by rfl, ?_⟩) (by assumption) (fun invn => ?_)
      rotate_left
      · (intro w hSw; (try dsimp only at hSw); go_simp; try with_reducible rfl)
      try simp only [List.getElem_toArray, List.getElem_cons_zero, List.getElem_cons_succ, Act.put, List.setIfInBounds_toArray, List.set_cons_zero, List.set_cons_succ]
      clear inv
      have inv := invn
      clear invn
      refine F_take (i := 2) (v := ?_) rfl (by kernel_rfl) (by kernel_rfl) (by kernel_rfl) (fun _ _ _ h => h) inv (Or.inl ⟨by rfl, ?_⟩) (by assumption) (fun invn => ?_)
      rotate_left
      · (intro w hSw; (try dsimp only at hSw); go_simp; try with_reducible rfl)
      try simp only [List.getElem_toArray, List.getElem_cons_zero, List.getElem_cons_succ, Act.put, List.setIfInBounds_toArray, List.set_cons_zero, List.set_cons_succ]
      clear inv
      have inv := invn
      clear invn
      refine F_take (i := 3) (v := ?_) rfl (by kernel_rfl) (by kernel_rfl) (by kernel_rfl) (fun _ _ _ h => h) inv (Or.inl ⟨by rfl, ?_⟩) (by assumption) (fun invn => ?_)
      rotate_left
      · (intro w hSw; (try dsimp only at hSw); go_simp; try with_reducible rfl)
      try simp only [List.getElem_toArray, List.getElem_cons_zero, List.getElem_cons_succ, Act.put, List.setIfInBounds_toArray, List.set_cons_zero, List.set_cons_succ]
      clear inv
      have inv := invn
      clear invn
      refine F_take (i := 5) (v := ?_) rfl (by kernel_rfl) (by kernel_rfl) (by kernel_rfl) (fun _ _ _ h => h) inv (Or.inl ⟨by rfl, ?_⟩) (by assumption) (fun invn => ?_)
      rotate_left
      · (intro w hSw; (try dsimp only at hSw); go_simp; try with_reducible rfl)
      try simp only [List.getElem_toArray, List.getElem_cons_zero, List.getElem_cons_succ, Act.put, List.setIfInBounds_toArray, List.set_cons_zero, List.set_cons_succ]
      clear inv
      have inv := invn
      clear invn
      refine F_take (i := 6) (v := ?_) rfl (by kernel_rfl) (by kernel_rfl) (by kernel_rfl) (fun _ _ _ h => h) inv (Or.inl ⟨by rfl, ?_⟩) (by assumption) (fun invn => ?_)
      rotate_left
      · (intro w hSw; (try dsimp only at hSw); go_simp; try with_reducible rfl)
      try simp only [List.getElem_toArray, List.getElem_cons_zero, List.getElem_cons_succ, Act.put, List.setIfInBounds_toArray, List.set_cons_zero, List.set_cons_succ]
      clear inv
      have inv := invn
      clear invn
      refine F_take (i := 7) (v := ?_) rfl (by kernel_rfl) (by kernel_rfl) (by kernel_rfl) (fun _ _ _ h => h) inv (Or.inl ⟨by rfl, ?_⟩) (by assumption) (fun invn => ?_)
      rotate_left
      · (intro w hSw; (try dsimp only at hSw); go_simp; try with_reducible rfl)
      try simp only [List.getElem_toArray, List.getElem_cons_zero, List.getElem_cons_succ, Act.put, List.setIfInBounds_toArray, List.set_cons_zero, List.set_cons_succ]
      clear inv
      have inv := invn
      clear invn
      refine F_take (i := 9) (v := ?_) rfl (by kernel_rfl) (by kernel_rfl) (by kernel_rfl) (fun _ _ _ h => h) inv (Or.inl ⟨by rfl, ?_⟩) (by assumption) (fun invn => ?_)
      rotate_left
      · (intro w hSw; (try dsimp only at hSw); go_simp; try with_reducible rfl)
      try simp only [List.getElem_toArray, List.getElem_cons_zero, List.getElem_cons_succ, Act.put, List.setIfInBounds_toArray, List.set_cons_zero, List.set_cons_succ]
      clear inv
      have inv := invn
      clear invn
      refine F_one (i := 4) (by kernel_rfl) rfl rfl (by omega) inv (fun K hK => ?_)
      try simp only [List.getElem_toArray, List.getElem_cons_zero, List.getElem_cons_succ]
      go_simp
      refine (arcs_any _ g _ (GrV.keep (w' := w1.drew) HGV.out hb3.drew) (grOk_iff.1 HGO.out)).mono ?_
      rintro e wA ⟨vA, rfl, hsA, hbA⟩
      refine hK.out _ _ (kB5 hbA hS) (fun hSn invn => ?_)
      try simp only [List.getElem_toArray, List.getElem_cons_zero, List.getElem_cons_succ, Act.put, List.setIfInBounds_toArray, List.set_cons_zero, List.set_cons_succ]
      clear hK K inv hS
      have inv := invn
      have hS := hSn
      clear invn hSn
      refine F_one (i := 8) (by kernel_rfl) rfl rfl (by omega) inv (fun K hK => ?_)
      try simp only [List.getElem_toArray, List.getElem_cons_zero, List.getElem_cons_succ]
      go_simp
      have hbz := below_trans hb3.drew hbA
      refine (implDistancesTo _ _ g a y _ (HGV.out.keep hbz) (HAV.out.keep hbz)).mono ?_
      rintro e wF ⟨vD, rfl, hoD, hbD⟩
      refine hK.out _ _ (kB5 hbD hS) (fun hSn invn => ?_)
      try simp only [List.getElem_toArray, List.getElem_cons_zero, List.getElem_cons_succ, Act.put, List.setIfInBounds_toArray, List.set_cons_zero, List.set_cons_succ]
      clear hK K inv hS
      have inv := invn
      have hS := hSn
      clear invn hSn
      have HSA := Lib.hid (SSE.keep (hsA.mono (Nat.zero_le _) (Nat.le_refl _)) hbD)
      have HOD := Lib.hid ((hoD.sl cI_len).all (Nat.le_refl _))
      have HBF := Lib.hid (below_trans hbz hbD)
      have HBR2 := Lib.hid (((HBR1.out.drew).keep hbA).keep hbD)
      clear hsA hbA hoD hbD hbz
      have HS5 := Lib.hid hS
      obtain ⟨A5, c5, hv5, hl5, hm5⟩ := HSA.out.shape
      have hlen5 : ((List.range g.vals.length).map fun (x : Nat) => arcsOf g (x : Int)).length = g.vals.length := by simp
      rw [hlen5] at hv5 hl5
      subst hv5
      obtain ⟨A6, c6, hv6, hl6, hm6, -⟩ := SlE.form HOD.out
      subst hv6
      refine F_take (i := 10) (v := ?_) rfl (by kernel_rfl) (by kernel_rfl) (by kernel_rfl) (fun _ _ _ h => h) inv (Or.inl ⟨by rfl, ?_⟩) (by assumption) (fun invn => ?_)
      rotate_left
      · (intro w hSw; (try dsimp only at hSw); go_simp; try with_reducible rfl)
      try simp only [List.getElem_toArray, List.getElem_cons_zero, List.getElem_cons_succ, Act.put, List.setIfInBounds_toArray, List.set_cons_zero, List.set_cons_succ]
      clear inv
      have inv := invn
      clear invn
      refine F_one (i := 11) (by kernel_rfl) rfl rfl (by omega) inv (fun K hK => ?_)
      try simp only [List.getElem_toArray, List.getElem_cons_zero, List.getElem_cons_succ]
      go_simp
      have hbk : Blk (wF.alloc (.cells #[.slice A1 g.vals.length c1, .slice A2 g.edges.length c2, .int .i64 a.start, .slice A3 a.accept.length c3, .slice A4 a.accept.length c4, .int .i64 y, .slice A5 g.vals.length c5, .slice A6 (distTo g a y).length c6, .int .i64 (B : Int), .int .i64 (((0 : Nat)) : Int)] 131)) wF.heap.size 131 #[.slice A1 g.vals.length c1, .slice A2 g.edges.length c2, .int .i64 a.start, .slice A3 a.accept.length c3, .slice A4 a.accept.length c4, .int .i64 y, .slice A5 g.vals.length c5, .slice A6 (distTo g a y).length c6, .int .i64 (B : Int), .int .i64 (((0 : Nat)) : Int)] := Blk.new _ _ _ _ rfl
      refine hK.out _ _ (kA5 _ hS) (fun hSn invn => ?_)
      try simp only [List.getElem_toArray, List.getElem_cons_zero, List.getElem_cons_succ, Act.put, List.setIfInBounds_toArray, List.set_cons_zero, List.set_cons_succ]
      clear hK K inv hS
      have inv := invn
      have hS := hSn
      clear invn hSn
      refine F_last (i := 12) (by kernel_rfl) rfl rfl (by omega) (by kernel_rfl) (fun K hK => ?_)
      go_simp
      refine hK _ _ ?_
      clear hK K inv hS
      have hbn := (Below.refl wF.heap.size wF).alloc (Nat.le_refl _) (.cells #[.slice A1 g.vals.length c1, .slice A2 g.edges.length c2, .int .i64 a.start, .slice A3 a.accept.length c3, .slice A4 a.accept.length c4, .int .i64 y, .slice A5 g.vals.length c5, .slice A6 (distTo g a y).length c6, .int .i64 (B : Int), .int .i64 (((0 : Nat)) : Int)] 131)
      have hsn : wF.heap.size < (wF.alloc (.cells #[.slice A1 g.vals.length c1, .slice A2 g.edges.length c2, .int .i64 a.start, .slice A3 a.accept.length c3, .slice A4 a.accept.length c4, .int .i64 y, .slice A5 g.vals.length c5, .slice A6 (distTo g a y).length c6, .int .i64 (B : Int), .int .i64 (((0 : Nat)) : Int)] 131)).heap.size := by simp
      have hzero : ((0 : Nat) : Int) = 0 := rfl
      rw [hzero] at hbk hbn hsn
      obtain ⟨bT, hbT⟩ : ∃ bT, bT = wF.heap.size := ⟨_, rfl⟩
      obtain ⟨W1, hW1⟩ : ∃ W1, W1 = wF.alloc (.cells #[.slice A1 g.vals.length c1, .slice A2 g.edges.length c2, .int .i64 a.start, .slice A3 a.accept.length c3, .slice A4 a.accept.length c4, .int .i64 y, .slice A5 g.vals.length c5, .slice A6 (distTo g a y).length c6, .int .i64 (B : Int), .int .i64 (0 : Int)] 131) := ⟨_, rfl⟩
      rw [← hW1] at hbk hbn hsn
      rw [← hbT] at hbk hsn
      have HNAME := Lib.hid (And.intro hW1 hbT)
      have hsF := HBF.out.size
      have HHV := Lib.hid (visit_hyp (v := .slice A5 g.vals.length c5) (dv := .slice A6 (distTo g a y).length c6) hbT hbn HBF.out HGV.out HAV.out HSA.out HOD.out)
      have HPR := Lib.hid (fun x s lf c w => promising_any g a y B (distTo g a y) HGO.out HAO.out bT W1 A1 A2 A3 A4 A5 A6 c1 c2 c3 c4 c5 c6 HHV.out.1 HHV.out.2.1 HHV.out.2.2.1 HHV.out.2.2.2 HDL.out hB2 hsn x s lf c w)
      have HVI := Lib.hid (visit_any g a y B (distTo g a y) HGO.out HAO.out bT W1 A1 A2 A3 A4 A5 A6 c1 c2 c3 c4 c5 c6 HHV.out.1 HHV.out.2.1 HHV.out.2.2.1 HHV.out.2.2.2 HDL.out hB2 hsn)
      have HBK := Lib.hid (show Blk W1 bT 131 #[.slice A1 g.vals.length c1, .slice A2 g.edges.length c2, .int .i64 a.start, .slice A3 a.accept.length c3, .slice A4 a.accept.length c4, .int .i64 y, .slice A5 g.vals.length c5, .slice A6 (distTo g a y).length c6, .int .i64 (B : Int), .int .i64 (((0 : Nat)) : Int)] from hbk)
      have HBR3 := Lib.hid (HBR2.out.keep hbn)
      obtain ⟨x0, x1, y0, y1, y2⟩ := HS5.out
      have x0 := kcell hbn x0
      have x1 := kcell hbn x1
      have y0 := kcell hbn y0
      have y1 := kcell hbn y1
      have y2 := kcell hbn y2
      have hwT : w.heap.size + 1 + 1 < bT := by have := HBR2.out.lt; omega
      have HB1 := Lib.hid (below_trans HBF.out hbn)
      go_wp2_with fail
      rw [← HNAME.out.1]
      try rw [← HNAME.out.2]
      have x0 := x0
      have HSRF := Lib.hid HF.out.symm
      clear hW1 hbk hbn HSA HOD HBF HBR1 HBR2 HNAME HHV HF HS5 hbT
      have lW0 : w.heap.size < W1.heap.size := by omega
      have lW1 : w.heap.size + 1 < W1.heap.size := by omega
      go_loopw [13] (fun ii wr => ∃ lf c k : Nat, lf + k = (g.edges.length + 1) ∧ c ≤ B ∧ ii = .int .i64 (lf : Int) ∧ srchF g a y B (distTo g a y) false x (bit s) [] k lf c = R ∧ Only bT (bT + 1) W1 wr ∧ Blk wr bT 131 #[.slice A1 g.vals.length c1, .slice A2 g.edges.length c2, .int .i64 a.start, .slice A3 a.accept.length c3, .slice A4 a.accept.length c4, .int .i64 y, .slice A5 g.vals.length c5, .slice A6 (distTo g a y).length c6, .int .i64 (B : Int), .int .i64 (c : Int)]) (fun ii _ => (g.edges.length + 1) - (intOf ii).toNat)
      case atStart => exact ⟨0, 0, (g.edges.length + 1), by omega, by omega, rfl, HSRF.out, Only.refl _ _ _, HBK.out⟩
      case round =>
        clear HSRF HBK
        obtain ⟨lf, c, k, hlk, hcB, rfl, hR, hon, hbk⟩ := hrel
        have HR := Lib.hid hR
        have HON := Lib.hid hon
        have HBK := Lib.hid hbk
        have hsz := hon.size
        have x0 := ocell hon x0 lW0 (.inl (by omega))
        have x1 := ocell hon x1 lW0 (.inl (by omega))
        have y0 := ocell hon y0 lW1 (.inl (by omega))
        have lr0 : w.heap.size < wr.heap.size := by omega
        have lr1 : w.heap.size + 1 < wr.heap.size := by omega
        clear hR hon hbk
        by_cases hlt : lf ≤ g.edges.length
        · have hle : (lf : Int) ≤ (g.edges.length : Int) := by omega
          obtain ⟨k, rfl⟩ : ∃ k', k = k' + 1 := ⟨k - 1, by omega⟩
          have HPX := Lib.hid (HPR.out x (bit s) lf c wr HON.out HBK.out hxl HBS.out (by omega))
          have s1 := e1.out
          have s2 := e2.out
          have s3 := e3.out
          rw [HST.out] at y0
          cases hhp : hope (distTo g a y) a.accept.length x (bit s) lf with
          | false =>
            rw [hhp] at HPX
            have HE := Lib.hid ((srchF_no hhp).symm.trans HR.out)
            clear HR hhp
            go_wp2_with fail
            refine HPX.out.mono ?_
            rintro e w5 ⟨rfl, hb5⟩
            have HO5 := Lib.hid (HON.out.trans (Only.of_below hb5 bT (bT + 1)))
            have HBK5 := Lib.hid (HBK.out.keep hb5)
            clear hb5
            go_wp2_with fail
            go_roundw
            case rel => exact ⟨lf + 1, c, k, by omega, hcB, by go_num, HE.out, HO5.out, HBK5.out⟩
            case measure => simp [intOf]; omega
          | true =>
            rw [hhp] at HPX
            have hvl := visit_le (g := g) (a := a) (y := y) (B := B) (D := distTo g a y) (sm := false) lf x (bit s) [] c hcB
            have hvn := visit_len (g := g) (a := a) (y := y) (B := B) (D := distTo g a y) (sm := false) lf x (bit s) [] c
            have HVX := Lib.hid (fun (uv : Value) (W : World) h1 h2 h3 => HVI.out lf x (bit s) [] c uv W h1 h2 h3 hxl HBS.out hcB (by simp; omega))
            have HY := Lib.hid (fun r c' h => (srchF_yes (k := k) (r := r) (c' := c') hhp h).symm.trans HR.out)
            have HO := Lib.hid (fun c' h h2 => (srchF_out (k := k) (c' := c') hhp h h2).symm.trans HR.out)
            have HN := Lib.hid (fun c' h h2 => (srchF_on (k := k) (c' := c') hhp h h2).symm.trans HR.out)
            generalize visit g a y B (distTo g a y) false lf x (bit s) [] c = V at *
            obtain ⟨o, c2⟩ := V
            simp only at hvl hvn
            clear HR hhp
            go_wp2_with fail
            refine HPX.out.mono ?_
            rintro e wP ⟨rfl, hbP⟩
            have HONP := Lib.hid (HON.out.trans (Only.of_below hbP bT (bT + 1)))
            have HBKP := Lib.hid (HBK.out.keep hbP)
            have hsP := hbP.size
            have x0 := kcell hbP x0
            have x1 := kcell hbP x1
            have y0 := kcell hbP y0
            have lp0 : w.heap.size < wP.heap.size := by omega
            have lp1 : w.heap.size + 1 < wP.heap.size := by omega
            clear hbP HPX
            have hu1 : SlI (bT + 1) wP.heap.size wP cI 1 (.slice none 0 0) ([] : List Int) := SlI.nil _ _ _ _ _
            have hon2 := HONP.out
            have hbk2 := HBKP.out
            have HVC := Lib.hid (HVX.out _ _ hon2 hbk2 hu1)
            have HON2 := Lib.hid hon2
            clear hon2 hbk2 hu1
            go_wp2_with fail
            refine HVC.out.mono ?_
            rintro e wV ⟨vV, rfl, hoV, hbkV, honV⟩
            have honT := HON2.out.trans honV
            have hszV := honT.size
            have HONT := Lib.hid honT
            have HOV := Lib.hid hoV
            have HBKV := Lib.hid hbkV
            have lTV := hbkV.lt
            have q9 : wV.cell? ⟨bT, 9, none⟩ = some (.int .i64 (c2 : Int)) := hbkV.cell 9
            have hbR : Blk wV (w.heap.size + 1 + 1) 59 #[.int .i64 0, .slice none 0 0] := HBR3.out.only honT (.inl hwT)
            have z0 : wV.cell? ⟨w.heap.size + 1 + 1, 0, none⟩ = some (.int .i64 0) := hbR.cell 0
            have z1 : wV.cell? ⟨w.heap.size + 1 + 1, 1, none⟩ = some (.slice none 0 0) := hbR.cell 1
            have fz0 := hbR.frozen 0
            have fz1 := hbR.frozen 1
            have lz := hbR.lt
            have HBV := Lib.hid (HB1.out.trans (honT.below (B := w.heap.size) (by omega) HB1.out.size))
            obtain ⟨A9, n9, c9, rfl⟩ := hoV.shape
            clear honT hoV hbkV honV hbR
            cases o with
            | some r =>
              have HE := Lib.hid (HY.out r c2 rfl)
              clear HY HO HN
              go_wp2_with fail
              have hon3 := ((Only.refl (w.heap.size + 1 + 1) (w.heap.size + 1 + 1 + 1) wV).setCell (p := ⟨w.heap.size + 1 + 1, 0, none⟩) (.inl ⟨Nat.le_refl _, Nat.lt_succ_self _⟩) (.int .i64 (x : Int))).setCell (p := ⟨w.heap.size + 1 + 1, 1, none⟩) (.inl ⟨Nat.le_refl _, Nat.lt_succ_self _⟩) (.slice A9 n9 c9)
              refine bodyPost_ret (v := .tuple #[.agg #[.int .i64 (x : Int), .slice A9 n9 c9], .int .i64 1]) (by simp [results, Tryz.results72, go_sem, z0, z1]) rfl ⟨_, by rw [← HE.out], ?_, HBV.out.trans (hon3.below (by omega) (by omega))⟩
              rw [← HE.out]
              exact ⟨_, rfl, (HOV.out.only hon3 (.inr (by omega))).mono (by omega) (by simp [World.setCell])⟩
            | none =>
              by_cases hcc : B ≤ c2
              · have HE := Lib.hid (HO.out c2 rfl hcc)
                have hcb : decide ((c2 : Int) ≥ (B : Int)) = true := by simp; omega
                clear HY HO HN
                go_wp2_with fail
                refine bodyPost_ret (v := .tuple #[.agg #[.int .i64 0, .slice none 0 0], .int .i64 3]) (by simp [results, Tryz.results72, go_sem, z0, z1]) rfl ⟨_, by rw [← HE.out], ?_, (HBV.out.setCell (p := ⟨w.heap.size + 1 + 1, 0, none⟩) (by simp only; omega) _).setCell (p := ⟨w.heap.size + 1 + 1, 1, none⟩) (by simp only; omega) _⟩
                rw [← HE.out]
                exact ⟨_, rfl, Own.nil _ _ _ _ _ _⟩
              · have HE := Lib.hid (HN.out c2 rfl hcc)
                have hcb : decide ((c2 : Int) ≥ (B : Int)) = false := by simp; omega
                clear HY HO HN
                go_wp2_with fail
                go_roundw
                case rel => exact ⟨lf + 1, c2, k, by omega, hvl.1, by go_num, HE.out, HONT.out, HBKV.out⟩
                case measure => simp [intOf]; omega
        · obtain rfl : k = 0 := by omega
          have HE := Lib.hid ((show srchF g a y B (distTo g a y) false x (bit s) [] 0 lf c = ((0, []), 2) from rfl).symm.trans HR.out)
          have hbR : Blk wr (w.heap.size + 1 + 1) 59 #[.int .i64 0, .slice none 0 0] := HBR3.out.only HON.out (.inl hwT)
          have z0 : wr.cell? ⟨w.heap.size + 1 + 1, 0, none⟩ = some (.int .i64 0) := hbR.cell 0
          have z1 : wr.cell? ⟨w.heap.size + 1 + 1, 1, none⟩ = some (.slice none 0 0) := hbR.cell 1
          have fz0 := hbR.frozen 0
          have fz1 := hbR.frozen 1
          have lz := hbR.lt
          have HBV := Lib.hid (HB1.out.trans (HON.out.below (B := w.heap.size) (by omega) HB1.out.size))
          clear HR hbR
          go_wp2_with fail
          refine bodyPost_ret (v := .tuple #[.agg #[.int .i64 0, .slice none 0 0], .int .i64 2]) (by simp [results, Tryz.results72, go_sem, z0, z1]) rfl ⟨_, by rw [← HE.out], ?_, (HBV.out.setCell (p := ⟨w.heap.size + 1 + 1, 0, none⟩) (by simp only; omega) _).setCell (p := ⟨w.heap.size + 1 + 1, 1, none⟩) (by simp only; omega) _⟩
          rw [← HE.out]
          exact ⟨_, rfl, Own.nil _ _ _ _ _ _⟩
set_option maxHeartbeats 16000000 in
set_option maxRecDepth 100000 in
theorem implSearchSimplePath (vg va : Value) (g : Gr) (a : Au) (x y BI : Int) (w : World) (hgv : GrV 0 w.heap.size w vg g) (hav : AuV 0 w.heap.size w va a) :
    Calls Tryz.prog 74 #[vg, va, .int .i64 x, .int .i64 y, .int .i64 BI] w fun e w' => ∃ v', e = .returned (.tuple #[v', .int .i64 (srchL g a x y BI true).2]) ∧ WkO w.heap.size w'.heap.size w' v' (srchL g a x y BI true).1 ∧ Below w.heap.size w w' := by
  have hgv0 := hgv
  have hav0 := hav
  obtain ⟨A1, c1, A2, c2, rfl, hl1, hm1, hl2, hm2, -, -⟩ := hgv.form
  obtain ⟨R, hR⟩ : ∃ R, R = srchL g a x y BI true := ⟨_, rfl⟩
  rw [← hR]
  cases hbo2 : ([x, y].all (fun s => wi s 0 ((g.vals.length : Int) - 1)) && (grOk g && auOk a)) with
  | false =>
    have hc : cntOk g a x y = false := by simpa [cntOk, Bool.and_assoc] using hbo2
    have hfin : R = ((0, []), 0) := by rw [hR, srchL, if_neg]; rw [srchOk, hc]; simp
    obtain ⟨ac, nx, rfl, hac, hnx⟩ := hav
    obtain ⟨A3, c3, rfl, -, -, -⟩ := SlE.form hac
    obtain ⟨A4, n4, c4, rfl⟩ := hnx.shape
    have hb0 : Below w.heap.size w (((w.alloc (.cells #[.slice A1 g.vals.length c1, .slice A2 g.edges.length c2] 36)).alloc (.cells #[.int .i64 a.start, .slice A3 a.accept.length c3, .slice A4 n4 c4] 38)).alloc (.cells #[.int .i64 0, .slice none 0 0] 59)) := (((Below.refl _ _).alloc (Nat.le_refl _) _).alloc (by simp) _).alloc (by simp; omega) _
    have hb1 := hb0.alloc hb0.size (.cells #[.int .i64 x, .int .i64 y] 3)
    have hst : SlE ((((w.alloc (.cells #[.slice A1 g.vals.length c1, .slice A2 g.edges.length c2] 36)).alloc (.cells #[.int .i64 a.start, .slice A3 a.accept.length c3, .slice A4 n4 c4] 38)).alloc (.cells #[.int .i64 0, .slice none 0 0] 59)).alloc (.cells #[.int .i64 x, .int .i64 y] 3)) cI 1 (.slice (some ⟨w.heap.size + 1 + 1 + 1, 0, none⟩) 2 2) [x, y] := by
      have h := lit_sl (((w.alloc (.cells #[.slice A1 g.vals.length c1, .slice A2 g.edges.length c2] 36)).alloc (.cells #[.int .i64 a.start, .slice A3 a.accept.length c3, .slice A4 n4 c4] 38)).alloc (.cells #[.int .i64 0, .slice none 0 0] 59)) 3 [x, y] (by unfold maxLen; simp)
      simpa using h
    have HBO := Lib.hid (bothOk_any _ _ _ g a [x, y] _ (hgv0.keep hb1) (hav0.keep hb1) hst)
    have HB1 := Lib.hid hb1
    have hbR := (Blk.new ((w.alloc (.cells #[.slice A1 g.vals.length c1, .slice A2 g.edges.length c2] 36)).alloc (.cells #[.int .i64 a.start, .slice A3 a.accept.length c3, .slice A4 n4 c4] 38)) 59 #[.int .i64 0, .slice none 0 0] (w.heap.size + 1 + 1) (by simp)).alloc (.cells #[.int .i64 x, .int .i64 y] 3)
    have hbG := (((Blk.new w 36 #[.slice A1 g.vals.length c1, .slice A2 g.edges.length c2] w.heap.size rfl).alloc (.cells #[.int .i64 a.start, .slice A3 a.accept.length c3, .slice A4 n4 c4] 38)).alloc (.cells #[.int .i64 0, .slice none 0 0] 59)).alloc (.cells #[.int .i64 x, .int .i64 y] 3)
    have hbA := ((Blk.new (w.alloc (.cells #[.slice A1 g.vals.length c1, .slice A2 g.edges.length c2] 36)) 38 #[.int .i64 a.start, .slice A3 a.accept.length c3, .slice A4 n4 c4] (w.heap.size + 1) (by simp)).alloc (.cells #[.int .i64 0, .slice none 0 0] 59)).alloc (.cells #[.int .i64 x, .int .i64 y] 3)
    have HBR := Lib.hid hbR
    have HBG := Lib.hid hbG
    have HBA := Lib.hid hbA
    clear hb0 hb1 hst hbR hbG hbA
    rw [hbo2] at HBO
    have HF := Lib.hid hfin
    clear hgv hac hnx hgv0 hav0 hbo2 hc hfin hR
    go_enter Tryz.func74, Tryz.ntmps74
    go_wp2_with fail
    refine HBO.out.mono ?_
    rintro e w1 ⟨rfl, hb2⟩
    have bR := HBR.out.keep hb2
    have z0 : w1.cell? ⟨w.heap.size + 1 + 1, 0, none⟩ = some (.int .i64 0) := bR.cell 0
    have z1 : w1.cell? ⟨w.heap.size + 1 + 1, 1, none⟩ = some (.slice none 0 0) := bR.cell 1
    have fz0 := bR.frozen 0
    have fz1 := bR.frozen 1
    have lz := bR.lt
    have HBV := Lib.hid (below_trans HB1.out hb2)
    clear bR HBR HBG HBA
    go_wp2_with fail
    refine bodyPost_ret (v := .tuple #[.agg #[.int .i64 0, .slice none 0 0], .int .i64 0]) (by simp [results, Tryz.results74, go_sem, z0, z1]) rfl ⟨_, by rw [HF.out], ?_, (HBV.out.setCell (p := ⟨w.heap.size + 1 + 1, 0, none⟩) (by simp only; omega) _).setCell (p := ⟨w.heap.size + 1 + 1, 1, none⟩) (by simp only; omega) _⟩
    rw [HF.out]
    exact ⟨_, rfl, Own.nil _ _ _ _ _ _⟩
  | true =>
    simp only [List.all_cons, List.all_nil, Bool.and_true] at hbo2
    have hbo3 := hbo2
    simp only [Bool.and_eq_true] at hbo3
    obtain ⟨⟨hx, hy⟩, hgo, hao⟩ := hbo3
    have hck : cntOk g a x y = true := by rw [cntOk, hx, hy, hgo, hao]; rfl
    obtain ⟨A3, c3, A4, c4, rfl, -, -, -, -, -⟩ := hav.form hao
    cases hwB : wi BI 1 20000 with
    | false =>
      have hfin : R = ((0, []), 0) := by rw [hR, srchL, if_neg]; rw [srchOk, hwB]; simp
      have hb0 : Below w.heap.size w (((w.alloc (.cells #[.slice A1 g.vals.length c1, .slice A2 g.edges.length c2] 36)).alloc (.cells #[.int .i64 a.start, .slice A3 a.accept.length c3, .slice A4 a.accept.length c4] 38)).alloc (.cells #[.int .i64 0, .slice none 0 0] 59)) := (((Below.refl _ _).alloc (Nat.le_refl _) _).alloc (by simp) _).alloc (by simp; omega) _
      have hb1 := hb0.alloc hb0.size (.cells #[.int .i64 x, .int .i64 y] 3)
      have hst : SlE ((((w.alloc (.cells #[.slice A1 g.vals.length c1, .slice A2 g.edges.length c2] 36)).alloc (.cells #[.int .i64 a.start, .slice A3 a.accept.length c3, .slice A4 a.accept.length c4] 38)).alloc (.cells #[.int .i64 0, .slice none 0 0] 59)).alloc (.cells #[.int .i64 x, .int .i64 y] 3)) cI 1 (.slice (some ⟨w.heap.size + 1 + 1 + 1, 0, none⟩) 2 2) [x, y] := by
        have h := lit_sl (((w.alloc (.cells #[.slice A1 g.vals.length c1, .slice A2 g.edges.length c2] 36)).alloc (.cells #[.int .i64 a.start, .slice A3 a.accept.length c3, .slice A4 a.accept.length c4] 38)).alloc (.cells #[.int .i64 0, .slice none 0 0] 59)) 3 [x, y] (by unfold maxLen; simp)
        simpa using h
      have HBO := Lib.hid (bothOk_any _ _ _ g a [x, y] _ (hgv0.keep hb1) (hav0.keep hb1) hst)
      have HB1 := Lib.hid hb1
      have hbR := (Blk.new ((w.alloc (.cells #[.slice A1 g.vals.length c1, .slice A2 g.edges.length c2] 36)).alloc (.cells #[.int .i64 a.start, .slice A3 a.accept.length c3, .slice A4 a.accept.length c4] 38)) 59 #[.int .i64 0, .slice none 0 0] (w.heap.size + 1 + 1) (by simp)).alloc (.cells #[.int .i64 x, .int .i64 y] 3)
      have hbG := (((Blk.new w 36 #[.slice A1 g.vals.length c1, .slice A2 g.edges.length c2] w.heap.size rfl).alloc (.cells #[.int .i64 a.start, .slice A3 a.accept.length c3, .slice A4 a.accept.length c4] 38)).alloc (.cells #[.int .i64 0, .slice none 0 0] 59)).alloc (.cells #[.int .i64 x, .int .i64 y] 3)
      have hbA := ((Blk.new (w.alloc (.cells #[.slice A1 g.vals.length c1, .slice A2 g.edges.length c2] 36)) 38 #[.int .i64 a.start, .slice A3 a.accept.length c3, .slice A4 a.accept.length c4] (w.heap.size + 1) (by simp)).alloc (.cells #[.int .i64 0, .slice none 0 0] 59)).alloc (.cells #[.int .i64 x, .int .i64 y] 3)
      have HBR := Lib.hid hbR
      have HBG := Lib.hid hbG
      have HBA := Lib.hid hbA
      clear hb0 hb1 hst hbR hbG hbA
      simp only [List.all_cons, List.all_nil, Bool.and_true] at HBO
      rw [hbo2] at HBO
      have HF := Lib.hid hfin
      have HW := Lib.hid (fun W => within_any BI 1 20000 W)
      rw [hwB] at HW
      clear hgv hav hgv0 hav0 hbo2 hck hfin hR hx hy hgo hao hwB
      go_enter Tryz.func74, Tryz.ntmps74
      go_wp2_with fail
      refine HBO.out.mono ?_
      rintro e w1 ⟨rfl, hb2⟩
      go_wp2_with fail
      refine (HW.out _).mono ?_
      rintro e w9 ⟨rfl, hw9⟩
      rw [hw9]
      clear hw9
      have bR := HBR.out.keep hb2
      have z0 : w1.cell? ⟨w.heap.size + 1 + 1, 0, none⟩ = some (.int .i64 0) := bR.cell 0
      have z1 : w1.cell? ⟨w.heap.size + 1 + 1, 1, none⟩ = some (.slice none 0 0) := bR.cell 1
      have fz0 := bR.frozen 0
      have fz1 := bR.frozen 1
      have lz := bR.lt
      have HBV := Lib.hid (below_trans HB1.out hb2)
      clear bR HBR HBG HBA
      go_wp2_with fail
      refine bodyPost_ret (v := .tuple #[.agg #[.int .i64 0, .slice none 0 0], .int .i64 0]) (by simp [results, Tryz.results74, go_sem, z0, z1]) rfl ⟨_, by rw [HF.out], ?_, (HBV.out.setCell (p := ⟨w.heap.size + 1 + 1, 0, none⟩) (by simp only; omega) _).setCell (p := ⟨w.heap.size + 1 + 1, 1, none⟩) (by simp only; omega) _⟩
      rw [HF.out]
      exact ⟨_, rfl, Own.nil _ _ _ _ _ _⟩
    | true =>
      rw [wi_iff] at hx hy
      have hwB2 := wi_iff.1 hwB
      have hgo2 := grOk_iff.1 hgo
      obtain ⟨x, rfl⟩ := Int.eq_ofNat_of_zero_le hx.1
      obtain ⟨B, rfl⟩ := Int.eq_ofNat_of_zero_le (show 0 ≤ BI by omega)
      have hxl : x < g.vals.length := by omega
      have hn5 := hgo2.n5
      have he12 := hgo2.e12
      obtain ⟨⟨hm1', hm12⟩, ⟨hst0, hst1⟩, -, -⟩ := auOk_iff.1 hao
      obtain ⟨s, hs⟩ : ∃ s : Nat, a.start = (s : Int) := ⟨a.start.toNat, by omega⟩
      have hsl : s < a.accept.length := by omega
      have hfin : R = srchF g a y B (distTo g a y) true x (bit s) (srchU true x) (srchN g true) 0 0 := by
        rw [hR, srchL, if_pos (by rw [srchOk, hck, hwB]; rfl), hs]; rfl
      have hb0 : Below w.heap.size w (((w.alloc (.cells #[.slice A1 g.vals.length c1, .slice A2 g.edges.length c2] 36)).alloc (.cells #[.int .i64 a.start, .slice A3 a.accept.length c3, .slice A4 a.accept.length c4] 38)).alloc (.cells #[.int .i64 0, .slice none 0 0] 59)) := (((Below.refl _ _).alloc (Nat.le_refl _) _).alloc (by simp) _).alloc (by simp; omega) _
      have hb1 := hb0.alloc hb0.size (.cells #[.int .i64 (x : Int), .int .i64 y] 3)
      have hst : SlE ((((w.alloc (.cells #[.slice A1 g.vals.length c1, .slice A2 g.edges.length c2] 36)).alloc (.cells #[.int .i64 a.start, .slice A3 a.accept.length c3, .slice A4 a.accept.length c4] 38)).alloc (.cells #[.int .i64 0, .slice none 0 0] 59)).alloc (.cells #[.int .i64 (x : Int), .int .i64 y] 3)) cI 1 (.slice (some ⟨w.heap.size + 1 + 1 + 1, 0, none⟩) 2 2) [(x : Int), y] := by
        have h := lit_sl (((w.alloc (.cells #[.slice A1 g.vals.length c1, .slice A2 g.edges.length c2] 36)).alloc (.cells #[.int .i64 a.start, .slice A3 a.accept.length c3, .slice A4 a.accept.length c4] 38)).alloc (.cells #[.int .i64 0, .slice none 0 0] 59)) 3 [(x : Int), y] (by unfold maxLen; simp)
        simpa using h
      have HBO := Lib.hid (bothOk_any _ _ _ g a [(x : Int), y] _ (hgv0.keep hb1) (hav0.keep hb1) hst)
      have HB1 := Lib.hid hb1
      have hbR := (Blk.new ((w.alloc (.cells #[.slice A1 g.vals.length c1, .slice A2 g.edges.length c2] 36)).alloc (.cells #[.int .i64 a.start, .slice A3 a.accept.length c3, .slice A4 a.accept.length c4] 38)) 59 #[.int .i64 0, .slice none 0 0] (w.heap.size + 1 + 1) (by simp)).alloc (.cells #[.int .i64 (x : Int), .int .i64 y] 3)
      have hbG := (((Blk.new w 36 #[.slice A1 g.vals.length c1, .slice A2 g.edges.length c2] w.heap.size rfl).alloc (.cells #[.int .i64 a.start, .slice A3 a.accept.length c3, .slice A4 a.accept.length c4] 38)).alloc (.cells #[.int .i64 0, .slice none 0 0] 59)).alloc (.cells #[.int .i64 (x : Int), .int .i64 y] 3)
      have hbA := ((Blk.new (w.alloc (.cells #[.slice A1 g.vals.length c1, .slice A2 g.edges.length c2] 36)) 38 #[.int .i64 a.start, .slice A3 a.accept.length c3, .slice A4 a.accept.length c4] (w.heap.size + 1) (by simp)).alloc (.cells #[.int .i64 0, .slice none 0 0] 59)).alloc (.cells #[.int .i64 (x : Int), .int .i64 y] 3)
      have HBR := Lib.hid hbR
      have HBG := Lib.hid hbG
      have HBA := Lib.hid hbA
      clear hb0 hb1 hst hbR hbG hbA
      simp only [List.all_cons, List.all_nil, Bool.and_true] at HBO
      rw [hbo2] at HBO
      have HW := Lib.hid (fun W => within_any (B : Int) 1 20000 W)
      rw [hwB] at HW
      have HF := Lib.hid hfin
      have HGV := Lib.hid hgv0
      have HAV := Lib.hid hav0
      have HGO := Lib.hid hgo
      have HAO := Lib.hid hao
      have HDL := Lib.hid (distTo_len (g := g) (a := a) (y := y) (by rw [wi_iff.2 hy, hgo, hao]; rfl))
      have hbs := bit_lt hsl
      have HBS := Lib.hid hbs
      have e1 := Lib.hid (shl_bit (s := s) (by omega))
      have e2 := Lib.hid (shl_bit2 (s := s) (by omega))
      have e3 := Lib.hid (shl_bit3 (s := s) (by omega))
      have hB1 : 1 ≤ B := by omega
      have hB2 : B ≤ 20000 := by omega
      have HST := Lib.hid hs
      clear hgv hav hgv0 hav0 hbo2 hck hfin hR hx hy hgo hao hwB hgo2 hst0 hst1 hbs hwB2 hs
      go_enter Tryz.func74, Tryz.ntmps74
      go_wp2_with fail
      refine HBO.out.mono ?_
      rintro e w1 ⟨rfl, hb2⟩
      have hb3 := below_trans HB1.out hb2
      have bR := HBR.out.keep hb2
      have bG := HBG.out.keep hb2
      have bA := HBA.out.keep hb2
      have x0 : w1.cell? ⟨w.heap.size, 0, none⟩ = some (.slice A1 g.vals.length c1) := by exact bG.cell 0
      have x1 : w1.cell? ⟨w.heap.size, 1, none⟩ = some (.slice A2 g.edges.length c2) := by exact bG.cell 1
      have y0 : w1.cell? ⟨w.heap.size + 1, 0, none⟩ = some (.int .i64 a.start) := by exact bA.cell 0
      have y1 : w1.cell? ⟨w.heap.size + 1, 1, none⟩ = some (.slice A3 a.accept.length c3) := by exact bA.cell 1
      have y2 : w1.cell? ⟨w.heap.size + 1, 2, none⟩ = some (.slice A4 a.accept.length c4) := by exact bA.cell 2
      have HBR1 := Lib.hid bR
      have HBW := Lib.hid hb3
      have lR := bR.lt
      clear bG bA bR hb2 HBO HB1 HBR HBG HBA hb3
      go_wp2_with fail
      refine (HW.out _).mono ?_
      rintro e w9 ⟨rfl, hw9⟩
      rw [hw9]
      clear hw9 HW
      go_wp2_with fail
      have hb3 := HBW.out
      refine F_start 12 (fun w' => w'.cell? ⟨w.heap.size, 0, none⟩ = some (.slice A1 g.vals.length c1) ∧ w'.cell? ⟨w.heap.size, 1, none⟩ = some (.slice A2 g.edges.length c2) ∧ w'.cell? ⟨w.heap.size + 1, 0, none⟩ = some (.int .i64 a.start) ∧ w'.cell? ⟨w.heap.size + 1, 1, none⟩ = some (.slice A3 a.accept.length c3) ∧ w'.cell? ⟨w.heap.size + 1, 2, none⟩ = some (.slice A4 a.accept.length c4)) (by kernel_rfl) (by exact ⟨x0, x1, y0, y1, y2⟩) (fun hS inv => ?_)
      refine F_take (i := 0) (v := ?_) rfl (by kernel_rfl) (by kernel_rfl) (by kernel_rfl) (fun _ _ _ h => h) inv (Or.inl ⟨by rfl, ?_⟩) (by assumption) (fun invn => ?_)
      rotate_left
      · (intro w hSw; (try dsimp only at hSw); go_simp; try with_reducible rfl)
      try simp only [List.getElem_toArray, List.getElem_cons_zero, List.getElem_cons_succ, Act.put, List.setIfInBounds_toArray, List.set_cons_zero, List.set_cons_succ]
      clear inv
      have inv := invn
      clear invn
      refine F_take (i := 1) (v := ?_) rfl (by kernel_rfl) (by kernel_rfl) (by kernel_rfl) (fun _ _ _ h => h) inv (Or.inl ⟨by rfl, ?_⟩) (by assumption) (fun invn => ?_)
      rotate_left
      · (intro w hSw; (try dsimp only at hSw); go_simp; try with_reducible rfl)
      try simp only [List.getElem_toArray, List.getElem_cons_zero, List.getElem_cons_succ, Act.put, List.setIfInBounds_toArray, List.set_cons_zero, List.set_cons_succ]
      clear inv
      have inv := invn
      clear invn
      refine F_take (i := 2) (v := ?_) rfl (by kernel_rfl) (by kernel_rfl) (by kernel_rfl) (fun _ _ _ h => h) inv (Or.inl ⟨by rfl, ?_⟩) (by assumption) (fun invn => ?_)
      rotate_left
      · (intro w hSw; (try dsimp only at hSw); go_simp; try with_reducible rfl)
      try simp only [List.getElem_toArray, List.getElem_cons_zero, List.getElem_cons_succ, Act.put, List.setIfInBounds_toArray, List.set_cons_zero, List.set_cons_succ]
      clear inv
      have inv := invn
      clear invn
      refine F_take (i := 3) (v := ?_) rfl (by kernel_rfl) (by kernel_rfl) (by kernel_rfl) (fun _ _ _ h => h) inv (Or.inl ⟨by rfl, ?_⟩) (by assumption) (fun invn => ?_)
      rotate_left
      · (intro w hSw; (try dsimp only at hSw); go_simp; try with_reducible rfl)
      try simp only [List.getElem_toArray, List.getElem_cons_zero, List.getElem_cons_succ, Act.put, List.setIfInBounds_toArray, List.set_cons_zero, List.set_cons_succ]
      clear inv
      have inv := invn
      clear invn
      refine F_take (i := 5) (v := ?_) rfl (by kernel_rfl) (by kernel_rfl) (by kernel_rfl) (fun _ _ _ h => h) inv (Or.inl ⟨by rfl, ?_⟩) (by assumption) (fun invn => ?_)
      rotate_left
      · (intro w hSw; (try dsimp only at hSw); go_simp; try with_reducible rfl)
      try simp only [List.getElem_toArray, List.getElem_cons_zero, List.getElem_cons_succ, Act.put, List.setIfInBounds_toArray, List.set_cons_zero, List.set_cons_succ]
      clear inv
      have inv := invn
      clear invn
      refine F_take (i := 6) (v := ?_) rfl (by kernel_rfl) (by kernel_rfl) (by kernel_rfl) (fun _ _ _ h => h) inv (Or.inl ⟨by rfl, ?_⟩) (by assumption) (fun invn => ?_)
      rotate_left
      · (intro w hSw; (try dsimp only at hSw); go_simp; try with_reducible rfl)
      try simp only [List.getElem_toArray, List.getElem_cons_zero, List.getElem_cons_succ, Act.put, List.setIfInBounds_toArray, List.set_cons_zero, List.set_cons_succ]
      clear inv
      have inv := invn
      clear invn
      refine F_take (i := 7) (v := ?_) rfl (by kernel_rfl) (by kernel_rfl) (by kernel_rfl) (fun _ _ _ h => h) inv (Or.inl ⟨by rfl, ?_⟩) (by assumption) (fun invn => ?_)
      rotate_left
      · (intro w hSw; (try dsimp only at hSw); go_simp; try with_reducible rfl)
      try simp only [List.getElem_toArray, List.getElem_cons_zero, List.getElem_cons_succ, Act.put, List.setIfInBounds_toArray, List.set_cons_zero, List.set_cons_succ]
      clear inv
      have inv := invn
      clear invn
      refine F_take (i := 9) (v := ?_) rfl (by kernel_rfl) (by kernel_rfl) (by kernel_rfl) (fun _ _ _ h => h) inv (Or.inl ⟨by rfl, ?_⟩) (by assumption) (fun invn => ?_)
      rotate_left
      · (intro w hSw; (try dsimp only at hSw); go_simp; try with_reducible rfl)
      try simp only [List.getElem_toArray, List.getElem_cons_zero, List.getElem_cons_succ, Act.put, List.setIfInBounds_toArray, List.set_cons_zero, List.set_cons_succ]
      clear inv
      have inv := invn
      clear invn
      refine F_one (i := 4) (by kernel_rfl) rfl rfl (by omega) inv (fun K hK => ?_)
      try simp only [List.getElem_toArray, List.getElem_cons_zero, List.getElem_cons_succ]
      go_simp
      refine (arcs_any _ g _ (GrV.keep (w' := w1.drew) HGV.out hb3.drew) (grOk_iff.1 HGO.out)).mono ?_
      rintro e wA ⟨vA, rfl, hsA, hbA⟩
      refine hK.out _ _ (kB5 hbA hS) (fun hSn invn => ?_)
      try simp only [List.getElem_toArray, List.getElem_cons_zero, List.getElem_cons_succ, Act.put, List.setIfInBounds_toArray, List.set_cons_zero, List.set_cons_succ]
      clear hK K inv hS
      have inv := invn
      have hS := hSn
      clear invn hSn
      refine F_one (i := 8) (by kernel_rfl) rfl rfl (by omega) inv (fun K hK => ?_)
      try simp only [List.getElem_toArray, List.getElem_cons_zero, List.getElem_cons_succ]
      go_simp
      have hbz := below_trans hb3.drew hbA
      refine (implDistancesTo _ _ g a y _ (HGV.out.keep hbz) (HAV.out.keep hbz)).mono ?_
      rintro e wF ⟨vD, rfl, hoD, hbD⟩
      refine hK.out _ _ (kB5 hbD hS) (fun hSn invn => ?_)
      try simp only [List.getElem_toArray, List.getElem_cons_zero, List.getElem_cons_succ, Act.put, List.setIfInBounds_toArray, List.set_cons_zero, List.set_cons_succ]
      clear hK K inv hS
      have inv := invn
      have hS := hSn
      clear invn hSn
      have HSA := Lib.hid (SSE.keep (hsA.mono (Nat.zero_le _) (Nat.le_refl _)) hbD)
      have HOD := Lib.hid ((hoD.sl cI_len).all (Nat.le_refl _))
      have HBF := Lib.hid (below_trans hbz hbD)
      have HBR2 := Lib.hid (((HBR1.out.drew).keep hbA).keep hbD)
      clear hsA hbA hoD hbD hbz
      have HS5 := Lib.hid hS
      obtain ⟨A5, c5, hv5, hl5, hm5⟩ := HSA.out.shape
      have hlen5 : ((List.range g.vals.length).map fun (x : Nat) => arcsOf g (x : Int)).length = g.vals.length := by simp
      rw [hlen5] at hv5 hl5
      subst hv5
      obtain ⟨A6, c6, hv6, hl6, hm6, -⟩ := SlE.form HOD.out
      subst hv6
      refine F_take (i := 10) (v := ?_) rfl (by kernel_rfl) (by kernel_rfl) (by kernel_rfl) (fun _ _ _ h => h) inv (Or.inl ⟨by rfl, ?_⟩) (by assumption) (fun invn => ?_)
      rotate_left
      · (intro w hSw; (try dsimp only at hSw); go_simp; try with_reducible rfl)
      try simp only [List.getElem_toArray, List.getElem_cons_zero, List.getElem_cons_succ, Act.put, List.setIfInBounds_toArray, List.set_cons_zero, List.set_cons_succ]
      clear inv
      have inv := invn
      clear invn
      refine F_one (i := 11) (by kernel_rfl) rfl rfl (by omega) inv (fun K hK => ?_)
      try simp only [List.getElem_toArray, List.getElem_cons_zero, List.getElem_cons_succ]
      go_simp
      have hbk : Blk (wF.alloc (.cells #[.slice A1 g.vals.length c1, .slice A2 g.edges.length c2, .int .i64 a.start, .slice A3 a.accept.length c3, .slice A4 a.accept.length c4, .int .i64 y, .slice A5 g.vals.length c5, .slice A6 (distTo g a y).length c6, .int .i64 (B : Int), .int .i64 (((0 : Nat)) : Int)] 131)) wF.heap.size 131 #[.slice A1 g.vals.length c1, .slice A2 g.edges.length c2, .int .i64 a.start, .slice A3 a.accept.length c3, .slice A4 a.accept.length c4, .int .i64 y, .slice A5 g.vals.length c5, .slice A6 (distTo g a y).length c6, .int .i64 (B : Int), .int .i64 (((0 : Nat)) : Int)] := Blk.new _ _ _ _ rfl
      refine hK.out _ _ (kA5 _ hS) (fun hSn invn => ?_)
      try simp only [List.getElem_toArray, List.getElem_cons_zero, List.getElem_cons_succ, Act.put, List.setIfInBounds_toArray, List.set_cons_zero, List.set_cons_succ]
      clear hK K inv hS
      have inv := invn
      have hS := hSn
      clear invn hSn
      refine F_last (i := 12) (by kernel_rfl) rfl rfl (by omega) (by kernel_rfl) (fun K hK => ?_)
      go_simp
      refine hK _ _ ?_
      clear hK K inv hS
      have hbn := (Below.refl wF.heap.size wF).alloc (Nat.le_refl _) (.cells #[.slice A1 g.vals.length c1, .slice A2 g.edges.length c2, .int .i64 a.start, .slice A3 a.accept.length c3, .slice A4 a.accept.length c4, .int .i64 y, .slice A5 g.vals.length c5, .slice A6 (distTo g a y).length c6, .int .i64 (B : Int), .int .i64 (((0 : Nat)) : Int)] 131)
      have hsn : wF.heap.size < (wF.alloc (.cells #[.slice A1 g.vals.length c1, .slice A2 g.edges.length c2, .int .i64 a.start, .slice A3 a.accept.length c3, .slice A4 a.accept.length c4, .int .i64 y, .slice A5 g.vals.length c5, .slice A6 (distTo g a y).length c6, .int .i64 (B : Int), .int .i64 (((0 : Nat)) : Int)] 131)).heap.size := by simp
      have hzero : ((0 : Nat) : Int) = 0 := rfl
      rw [hzero] at hbk hbn hsn
      obtain ⟨bT, hbT⟩ : ∃ bT, bT = wF.heap.size := ⟨_, rfl⟩
      obtain ⟨W1, hW1⟩ : ∃ W1, W1 = wF.alloc (.cells #[.slice A1 g.vals.length c1, .slice A2 g.edges.length c2, .int .i64 a.start, .slice A3 a.accept.length c3, .slice A4 a.accept.length c4, .int .i64 y, .slice A5 g.vals.length c5, .slice A6 (distTo g a y).length c6, .int .i64 (B : Int), .int .i64 (0 : Int)] 131) := ⟨_, rfl⟩
      rw [← hW1] at hbk hbn hsn
      rw [← hbT] at hbk hsn
      have HNAME := Lib.hid (And.intro hW1 hbT)
      have hsF := HBF.out.size
      have HHV := Lib.hid (visit_hyp (v := .slice A5 g.vals.length c5) (dv := .slice A6 (distTo g a y).length c6) hbT hbn HBF.out HGV.out HAV.out HSA.out HOD.out)
      have HPR := Lib.hid (fun x s lf c w => promising_any g a y B (distTo g a y) HGO.out HAO.out bT W1 A1 A2 A3 A4 A5 A6 c1 c2 c3 c4 c5 c6 HHV.out.1 HHV.out.2.1 HHV.out.2.2.1 HHV.out.2.2.2 HDL.out hB2 hsn x s lf c w)
      have HVI := Lib.hid (simpleVisit_any g a y B (distTo g a y) HGO.out HAO.out bT W1 A1 A2 A3 A4 A5 A6 c1 c2 c3 c4 c5 c6 HHV.out.1 HHV.out.2.1 HHV.out.2.2.1 HHV.out.2.2.2 HDL.out hB2 hsn)
      have HBK := Lib.hid (show Blk W1 bT 131 #[.slice A1 g.vals.length c1, .slice A2 g.edges.length c2, .int .i64 a.start, .slice A3 a.accept.length c3, .slice A4 a.accept.length c4, .int .i64 y, .slice A5 g.vals.length c5, .slice A6 (distTo g a y).length c6, .int .i64 (B : Int), .int .i64 (((0 : Nat)) : Int)] from hbk)
      have HBR3 := Lib.hid (HBR2.out.keep hbn)
      obtain ⟨x0, x1, y0, y1, y2⟩ := HS5.out
      have x0 := kcell hbn x0
      have x1 := kcell hbn x1
      have y0 := kcell hbn y0
      have y1 := kcell hbn y1
      have y2 := kcell hbn y2
      have hwT : w.heap.size + 1 + 1 < bT := by have := HBR2.out.lt; omega
      have HB1 := Lib.hid (below_trans HBF.out hbn)
      go_wp2_with fail
      rw [← HNAME.out.1]
      try rw [← HNAME.out.2]
      have x0 := x0
      have HSRF := Lib.hid HF.out.symm
      clear hW1 hbk hbn HSA HOD HBF HBR1 HBR2 HNAME HHV HF HS5 hbT
      have lW0 : w.heap.size < W1.heap.size := by omega
      have lW1 : w.heap.size + 1 < W1.heap.size := by omega
      go_loopw [13] (fun ii wr => ∃ lf c k : Nat, lf + k = g.vals.length ∧ c ≤ B ∧ ii = .int .i64 (lf : Int) ∧ srchF g a y B (distTo g a y) true x (bit s) [(x : Int)] k lf c = R ∧ Only bT (bT + 1) W1 wr ∧ Blk wr bT 131 #[.slice A1 g.vals.length c1, .slice A2 g.edges.length c2, .int .i64 a.start, .slice A3 a.accept.length c3, .slice A4 a.accept.length c4, .int .i64 y, .slice A5 g.vals.length c5, .slice A6 (distTo g a y).length c6, .int .i64 (B : Int), .int .i64 (c : Int)]) (fun ii _ => g.vals.length - (intOf ii).toNat)
      case atStart => exact ⟨0, 0, g.vals.length, by omega, by omega, rfl, HSRF.out, Only.refl _ _ _, HBK.out⟩
      case round =>
        clear HSRF HBK
        obtain ⟨lf, c, k, hlk, hcB, rfl, hR, hon, hbk⟩ := hrel
        have HR := Lib.hid hR
        have HON := Lib.hid hon
        have HBK := Lib.hid hbk
        have hsz := hon.size
        have x0 := ocell hon x0 lW0 (.inl (by omega))
        have x1 := ocell hon x1 lW0 (.inl (by omega))
        have y0 := ocell hon y0 lW1 (.inl (by omega))
        have lr0 : w.heap.size < wr.heap.size := by omega
        have lr1 : w.heap.size + 1 < wr.heap.size := by omega
        clear hR hon hbk
        by_cases hlt : lf < g.vals.length
        · have hle : (lf : Int) < (g.vals.length : Int) := by omega
          obtain ⟨k, rfl⟩ : ∃ k', k = k' + 1 := ⟨k - 1, by omega⟩
          have HPX := Lib.hid (HPR.out x (bit s) lf c wr HON.out HBK.out hxl HBS.out (by omega))
          have s1 := e1.out
          have s2 := e2.out
          have s3 := e3.out
          rw [HST.out] at y0
          cases hhp : hope (distTo g a y) a.accept.length x (bit s) lf with
          | false =>
            rw [hhp] at HPX
            have HE := Lib.hid ((srchF_no hhp).symm.trans HR.out)
            clear HR hhp
            go_wp2_with fail
            refine HPX.out.mono ?_
            rintro e w5 ⟨rfl, hb5⟩
            have HO5 := Lib.hid (HON.out.trans (Only.of_below hb5 bT (bT + 1)))
            have HBK5 := Lib.hid (HBK.out.keep hb5)
            clear hb5
            go_wp2_with fail
            go_roundw
            case rel => exact ⟨lf + 1, c, k, by omega, hcB, by go_num, HE.out, HO5.out, HBK5.out⟩
            case measure => simp [intOf]; omega
          | true =>
            rw [hhp] at HPX
            have hvl := visit_le (g := g) (a := a) (y := y) (B := B) (D := distTo g a y) (sm := true) lf x (bit s) [(x : Int)] c hcB
            have hvn := visit_len (g := g) (a := a) (y := y) (B := B) (D := distTo g a y) (sm := true) lf x (bit s) [(x : Int)] c
            have HVX := Lib.hid (fun (uv : Value) (W : World) h1 h2 h3 => HVI.out lf x (bit s) [(x : Int)] c uv W h1 h2 h3 hxl HBS.out hcB (by simp; omega))
            have HY := Lib.hid (fun r c' h => (srchF_yes (k := k) (r := r) (c' := c') hhp h).symm.trans HR.out)
            have HO := Lib.hid (fun c' h h2 => (srchF_out (k := k) (c' := c') hhp h h2).symm.trans HR.out)
            have HN := Lib.hid (fun c' h h2 => (srchF_on (k := k) (c' := c') hhp h h2).symm.trans HR.out)
            generalize visit g a y B (distTo g a y) true lf x (bit s) [(x : Int)] c = V at *
            obtain ⟨o, c2⟩ := V
            simp only at hvl hvn
            clear HR hhp
            go_wp2_with fail
            refine HPX.out.mono ?_
            rintro e wP ⟨rfl, hbP⟩
            have HONP := Lib.hid (HON.out.trans (Only.of_below hbP bT (bT + 1)))
            have HBKP := Lib.hid (HBK.out.keep hbP)
            have hsP := hbP.size
            have x0 := kcell hbP x0
            have x1 := kcell hbP x1
            have y0 := kcell hbP y0
            have lp0 : w.heap.size < wP.heap.size := by omega
            have lp1 : w.heap.size + 1 < wP.heap.size := by omega
            clear hbP HPX
            have hu := (lit_sl wP 3 [(x : Int)] (by unfold maxLen; simp))
            have hu1 : SlI (bT + 1) (wP.alloc (.cells #[.int .i64 (x : Int)] 3)).heap.size (wP.alloc (.cells #[.int .i64 (x : Int)] 3)) cI 1 (.slice (some ⟨wP.heap.size, 0, none⟩) 1 1) [(x : Int)] := by
              have h := Own.of_row (xs := [(x : Int)]) (E := cI) (World.ownsRow_lit (base := wP.heap.size) (e := 3) (size := 1) wP #[.int .i64 (x : Int)] 1 (Nat.le_refl _) (by decide) rfl) rfl rfl
              exact (h.sl cI_len).mono (show bT + 1 ≤ wP.heap.size by omega) (Nat.le_refl _)
            have hsq : wP.heap.size < (wP.alloc (.cells #[.int .i64 (x : Int)] 3)).heap.size := by simp
            have hon2 := HONP.out.alloc (.cells #[.int .i64 (x : Int)] 3)
            have hbk2 := HBKP.out.alloc (.cells #[.int .i64 (x : Int)] 3)
            have HVC := Lib.hid (HVX.out _ _ hon2 hbk2 hu1)
            have HON2 := Lib.hid hon2
            clear hon2 hbk2 hu1
            go_wp2_with fail
            refine HVC.out.mono ?_
            rintro e wV ⟨vV, rfl, hoV, hbkV, honV⟩
            have honT := HON2.out.trans honV
            have hszV := honT.size
            have HONT := Lib.hid honT
            have HOV := Lib.hid hoV
            have HBKV := Lib.hid hbkV
            have lTV := hbkV.lt
            have q9 : wV.cell? ⟨bT, 9, none⟩ = some (.int .i64 (c2 : Int)) := hbkV.cell 9
            have hbR : Blk wV (w.heap.size + 1 + 1) 59 #[.int .i64 0, .slice none 0 0] := HBR3.out.only honT (.inl hwT)
            have z0 : wV.cell? ⟨w.heap.size + 1 + 1, 0, none⟩ = some (.int .i64 0) := hbR.cell 0
            have z1 : wV.cell? ⟨w.heap.size + 1 + 1, 1, none⟩ = some (.slice none 0 0) := hbR.cell 1
            have fz0 := hbR.frozen 0
            have fz1 := hbR.frozen 1
            have lz := hbR.lt
            have HBV := Lib.hid (HB1.out.trans (honT.below (B := w.heap.size) (by omega) HB1.out.size))
            obtain ⟨A9, n9, c9, rfl⟩ := hoV.shape
            clear honT hoV hbkV honV hbR
            cases o with
            | some r =>
              have HE := Lib.hid (HY.out r c2 rfl)
              clear HY HO HN
              go_wp2_with fail
              have hon3 := ((Only.refl (w.heap.size + 1 + 1) (w.heap.size + 1 + 1 + 1) wV).setCell (p := ⟨w.heap.size + 1 + 1, 0, none⟩) (.inl ⟨Nat.le_refl _, Nat.lt_succ_self _⟩) (.int .i64 (x : Int))).setCell (p := ⟨w.heap.size + 1 + 1, 1, none⟩) (.inl ⟨Nat.le_refl _, Nat.lt_succ_self _⟩) (.slice A9 n9 c9)
              refine bodyPost_ret (v := .tuple #[.agg #[.int .i64 (x : Int), .slice A9 n9 c9], .int .i64 1]) (by simp [results, Tryz.results74, go_sem, z0, z1]) rfl ⟨_, by rw [← HE.out], ?_, HBV.out.trans (hon3.below (by omega) (by omega))⟩
              rw [← HE.out]
              exact ⟨_, rfl, (HOV.out.only hon3 (.inr (by omega))).mono (by omega) (by simp [World.setCell])⟩
            | none =>
              by_cases hcc : B ≤ c2
              · have HE := Lib.hid (HO.out c2 rfl hcc)
                have hcb : decide ((c2 : Int) ≥ (B : Int)) = true := by simp; omega
                clear HY HO HN
                go_wp2_with fail
                refine bodyPost_ret (v := .tuple #[.agg #[.int .i64 0, .slice none 0 0], .int .i64 3]) (by simp [results, Tryz.results74, go_sem, z0, z1]) rfl ⟨_, by rw [← HE.out], ?_, (HBV.out.setCell (p := ⟨w.heap.size + 1 + 1, 0, none⟩) (by simp only; omega) _).setCell (p := ⟨w.heap.size + 1 + 1, 1, none⟩) (by simp only; omega) _⟩
                rw [← HE.out]
                exact ⟨_, rfl, Own.nil _ _ _ _ _ _⟩
              · have HE := Lib.hid (HN.out c2 rfl hcc)
                have hcb : decide ((c2 : Int) ≥ (B : Int)) = false := by simp; omega
                clear HY HO HN
                go_wp2_with fail
                go_roundw
                case rel => exact ⟨lf + 1, c2, k, by omega, hvl.1, by go_num, HE.out, HONT.out, HBKV.out⟩
                case measure => simp [intOf]; omega
        · obtain rfl : k = 0 := by omega
          have HE := Lib.hid ((show srchF g a y B (distTo g a y) true x (bit s) [(x : Int)] 0 lf c = ((0, []), 2) from rfl).symm.trans HR.out)
          have hbR : Blk wr (w.heap.size + 1 + 1) 59 #[.int .i64 0, .slice none 0 0] := HBR3.out.only HON.out (.inl hwT)
          have z0 : wr.cell? ⟨w.heap.size + 1 + 1, 0, none⟩ = some (.int .i64 0) := hbR.cell 0
          have z1 : wr.cell? ⟨w.heap.size + 1 + 1, 1, none⟩ = some (.slice none 0 0) := hbR.cell 1
          have fz0 := hbR.frozen 0
          have fz1 := hbR.frozen 1
          have lz := hbR.lt
          have HBV := Lib.hid (HB1.out.trans (HON.out.below (B := w.heap.size) (by omega) HB1.out.size))
          clear HR hbR
          go_wp2_with fail
          refine bodyPost_ret (v := .tuple #[.agg #[.int .i64 0, .slice none 0 0], .int .i64 2]) (by simp [results, Tryz.results74, go_sem, z0, z1]) rfl ⟨_, by rw [← HE.out], ?_, (HBV.out.setCell (p := ⟨w.heap.size + 1 + 1, 0, none⟩) (by simp only; omega) _).setCell (p := ⟨w.heap.size + 1 + 1, 1, none⟩) (by simp only; omega) _⟩
          rw [← HE.out]
          exact ⟨_, rfl, Own.nil _ _ _ _ _ _⟩
end Go.Proofs.YtpbfdmfkmbdpkaaGreat
