/- Parts of the proof, joined into one text: FromI, AppL, Reslice, SortI, AnsI, AnsS. -/
import Derived.Test.YtmlfkledhnlkeaaPartCOGNLGHP
import Derived.Test.YtmlfkledhnlkeaaPartNCBBPGDM
import Derived.Test.YtmlfkledhnlkeaaPartEKCEBIEK
import Derived.Test.YtmlfkledhnlkeaaPartMIKLFIHB
import Derived.Test.YtmlfkledhnlkeaaPartCAPLBKNO
import Derived.Test.YtmlfkledhnlkeaaPartDFKFCHBF
import Derived.Test.YtmlfkledhnlkeaaPartKBLPOAAF
import Derived.Test.YtmlfkledhnlkeaaPartMKLPAJLM
import Derived.Lib.Slices
/- The program's DistancesFrom. -/
namespace Go.Proofs.Ytmlfkledhnlkeaa
set_option linter.unusedVariables false
set_option linter.unusedSimpArgs false
open Go.ChangeShapes Go.WideShapes Go.ChangeAt Go.RowKit
attribute [local go_sem] ext_cell ext_frozen ext_lt ext_lt1 ext_lt2 ext_lt3 ltn2 ltn3 ltn13 lts1 lts2 lts3

theorem lit_nat (w : World) (e : TypeId) (x : Nat) : SlE (w.alloc (.cells #[.int .i64 (x : Int)] e)) cN 1 (.slice (some ⟨w.heap.size, 0, none⟩) 1 1) [x] := by
  have h := Own.of_row (xs := [x]) (E := cN) (World.ownsRow_lit (base := 0) (e := e) (size := 1) w #[.int .i64 (x : Int)] 1 (Nat.zero_le _) (by decide) rfl) rfl rfl
  exact (h.sl cN_len).all (Nat.le_refl _)
set_option maxHeartbeats 4000000 in
set_option maxRecDepth 100000 in
theorem implDistancesFrom (vg va : Value) (g : Gr) (a : Au) (x : Int) (w : World) (hgv : GrV 0 w.heap.size w vg g) (hav : AuV 0 w.heap.size w va a) :
    Calls Try.prog 146 #[vg, va, .int .i64 x] w fun e w' => ∃ v', e = .returned v' ∧ Own w.heap.size w'.heap.size w' 3 cI 1 v' (distFrom g a x) ∧ Below w.heap.size w w' := by
  have hgv0 := hgv
  have hav0 := hav
  obtain ⟨A1, n1, c1, A2, n2, c2, rfl⟩ := hgv.shape
  obtain ⟨ac, nx, rfl, hac, hnx⟩ := hav
  obtain ⟨A3, c3, rfl, -, -, -⟩ := SlE.form hac
  obtain ⟨A4, n4, c4, rfl⟩ := hnx.shape
  have hb0 : Below w.heap.size w ((w.alloc (.cells #[.slice A1 n1 c1, .slice A2 n2 c2] 48)).alloc (.cells #[.int .i64 a.start, .slice A3 a.accept.length c3, .slice A4 n4 c4] 50)) := ((Below.refl _ _).alloc (Nat.le_refl _) _).alloc (by simp) _
  have hb1 := hb0.alloc hb0.size (.cells #[.int .i64 x] 3)
  have hst : SlE (((w.alloc (.cells #[.slice A1 n1 c1, .slice A2 n2 c2] 48)).alloc (.cells #[.int .i64 a.start, .slice A3 a.accept.length c3, .slice A4 n4 c4] 50)).alloc (.cells #[.int .i64 x] 3)) cI 1 (.slice (some ⟨w.heap.size + 1 + 1, 0, none⟩) 1 1) [x] := by
    have h := lit_sl ((w.alloc (.cells #[.slice A1 n1 c1, .slice A2 n2 c2] 48)).alloc (.cells #[.int .i64 a.start, .slice A3 a.accept.length c3, .slice A4 n4 c4] 50)) 3 [x] (by unfold maxLen; simp)
    simpa using h
  have hbo := bothOk_any _ _ _ g a [x] _ (hgv0.keep hb1) (hav0.keep hb1) hst
  have HBO := Lib.hid hbo
  have HGV := Lib.hid hgv0
  have HAV := Lib.hid hav0
  clear hgv hac hnx hgv0 hav0 hbo hst
  cases hk : ([x].all (fun s => wi s 0 ((g.vals.length : Int) - 1)) && (grOk g && auOk a)) with
  | false =>
    rw [hk] at HBO
    have hfin : distFrom g a x = [] := by unfold distFrom; rw [if_neg]; simpa using hk
    have HF := Lib.hid hfin
    clear hk hfin
    go_enter Try.func146, Try.ntmps146
    go_wp2_with fail
    refine HBO.out.mono ?_
    rintro e w1 ⟨rfl, hb2⟩
    go_wp2_with fail
    go_ret
    exact ⟨_, rfl, by rw [HF.out]; exact Own.nil _ _ _ _ _ _, below_trans hb1 hb2⟩
  | true =>
    rw [hk] at HBO
    simp only [List.all_cons, List.all_nil, Bool.and_true, Bool.and_eq_true, wi_iff] at hk
    obtain ⟨⟨hx0, hx1⟩, hgo, hao⟩ := hk
    have hgo2 := grOk_iff.1 hgo
    obtain ⟨x, rfl⟩ := Int.eq_ofNat_of_zero_le hx0
    have hxl : x < g.vals.length := by omega
    obtain ⟨N, hN⟩ : ∃ N, N = g.vals.length * a.accept.length := ⟨_, rfl⟩
    have hn5 := hgo2.n5
    have hn1 := hgo2.n1
    obtain ⟨⟨hm1, hm12⟩, ⟨hst0, hst1⟩, -, -⟩ := auOk_iff.1 hao
    have hN60 : N ≤ 60 := by rw [hN]; have := Nat.mul_le_mul hn5 hm12; omega
    have hN1 : 1 ≤ N := by rw [hN]; exact Nat.mul_pos hn1 hm1
    obtain ⟨s, hs⟩ : ∃ s : Nat, a.start = (s : Int) := ⟨a.start.toNat, by omega⟩
    obtain ⟨xn, hxn⟩ : ∃ xn, xn = x * a.accept.length := ⟨_, rfl⟩
    have hxn2 : xn + a.accept.length ≤ N := by rw [hxn, hN]; have := Nat.mul_le_mul_right a.accept.length (show x + 1 ≤ g.vals.length by omega); rw [Nat.succ_mul] at this; exact this
    obtain ⟨S0, hS0⟩ : ∃ S0, S0 = xn + s := ⟨_, rfl⟩
    have hS0N : S0 < N := by omega
    have m1' : (x : Int) * (a.accept.length : Int) = (xn : Int) := by rw [hxn, Int.natCast_mul]
    have m1 : IntKind.i64.wrap ((x : Int) * (a.accept.length : Int)) = (xn : Int) := by rw [m1']; exact IntWalk.i64_in _ (by omega)
    have m2' : (xn : Int) + a.start = (S0 : Int) := by omega
    have m2 : IntKind.i64.wrap ((xn : Int) + a.start) = (S0 : Int) := by rw [m2']; exact IntWalk.i64_in _ (by omega)
    have m3 : IntKind.i64.wrap (xn : Int) = (xn : Int) := IntWalk.i64_in _ (by omega)
    have m4 : IntKind.i64.wrap (S0 : Int) = (S0 : Int) := IntWalk.i64_in _ (by omega)
    have hfin : distFrom g a (x : Int) = spreadR N (nextI g a) [S0] := by
      rw [distFrom, if_pos (by simp only [Bool.and_eq_true, wi_iff]; exact ⟨by omega, hgo, hao⟩), Int.toNat_natCast, ← hxn, ← hN, hs, Int.toNat_natCast, ← hS0]
    have hnl : ∀ i, i < N → ∀ k ∈ nextI g a i, k < N := fun i _ k hk => by rw [hN]; exact nextV_lt hgo2 hao hk
    have hfl : ∀ i ∈ [S0], i < N := by intro i hi; rw [List.mem_singleton] at hi; omega
    have HN := Lib.hid hN
    have HNL := Lib.hid hnl
    have HFL := Lib.hid hfl
    have HGO := Lib.hid hgo2
    have HAO := Lib.hid hao
    have HF := Lib.hid hfin
    have M1 := Lib.hid m1
    have M1' := Lib.hid m1'
    have M2 := Lib.hid m2
    have M2' := Lib.hid m2'
    have M3 := Lib.hid m3
    have M4 := Lib.hid m4
    clear hN hnl hfl hgo hgo2 hao hfin hx0 hx1 hs hxn hS0 m1 m1' m2 m2' m3 m4 hst0 hst1
    go_enter Try.func146, Try.ntmps146
    go_wp2_with fail
    refine HBO.out.mono ?_
    rintro e w1 ⟨rfl, hb2⟩
    have hb3 := below_trans hb1 hb2
    have b0 := (((Blk.new w 48 #[.slice A1 n1 c1, .slice A2 n2 c2] w.heap.size rfl).alloc (.cells #[.int .i64 a.start, .slice A3 a.accept.length c3, .slice A4 n4 c4] 50)).alloc (.cells #[.int .i64 (x : Int)] 3)).keep hb2
    have b1 := ((Blk.new (w.alloc (.cells #[.slice A1 n1 c1, .slice A2 n2 c2] 48)) 50 #[.int .i64 a.start, .slice A3 a.accept.length c3, .slice A4 n4 c4] (w.heap.size + 1) (by simp)).alloc (.cells #[.int .i64 (x : Int)] 3)).keep hb2
    have x0 : w1.cell? ⟨w.heap.size, 0, none⟩ = some (.slice A1 n1 c1) := by exact b0.cell 0
    have x1 : w1.cell? ⟨w.heap.size, 1, none⟩ = some (.slice A2 n2 c2) := by exact b0.cell 1
    have y0 : w1.cell? ⟨w.heap.size + 1, 0, none⟩ = some (.int .i64 a.start) := by exact b1.cell 0
    have y1 : w1.cell? ⟨w.heap.size + 1, 1, none⟩ = some (.slice A3 a.accept.length c3) := by exact b1.cell 1
    have y2 : w1.cell? ⟨w.heap.size + 1, 2, none⟩ = some (.slice A4 n4 c4) := by exact b1.cell 2
    clear hb0 hb1 hb2 b0 b1 HBO
    go_wp2_with fail
    have m1 := M1.out
    have m1' := M1'.out
    have m2 := M2.out
    have m2' := M2'.out
    have m3 := M3.out
    have m4 := M4.out
    refine F_start 13 (fun w' => w'.cell? ⟨w.heap.size, 0, none⟩ = some (.slice A1 n1 c1) ∧ w'.cell? ⟨w.heap.size, 1, none⟩ = some (.slice A2 n2 c2) ∧ w'.cell? ⟨w.heap.size + 1, 0, none⟩ = some (.int .i64 a.start) ∧ w'.cell? ⟨w.heap.size + 1, 1, none⟩ = some (.slice A3 a.accept.length c3) ∧ w'.cell? ⟨w.heap.size + 1, 2, none⟩ = some (.slice A4 n4 c4)) (by kernel_rfl) (by exact ⟨x0, x1, y0, y1, y2⟩) (fun hS inv => ?_)
    refine F_take (i := 0) (v := ?_) rfl (by kernel_rfl) (by kernel_rfl) (by kernel_rfl) (fun _ _ _ h => h) inv (Or.inl ⟨by rfl, ?_⟩) (by assumption) (fun invn => ?_)
    rotate_left
    · (intro w hSw; (try dsimp only at hSw); go_simp; try with_reducible rfl)
    try simp only [List.getElem_toArray, List.getElem_cons_zero, List.getElem_cons_succ, Act.put, List.setIfInBounds_toArray, List.set_cons_zero, List.set_cons_succ]
    clear inv
    have inv := invn
    clear invn
    refine F_take (i := 1) (v := ?_) rfl (by kernel_rfl) (by kernel_rfl) (by kernel_rfl) (fun _ _ _ h => h) inv (Or.inl ⟨by rfl, ?_⟩) (by assumption) (fun invn => ?_)
    rotate_left
    · (intro w hSw; (try dsimp only at hSw); go_simp; try with_reducible rfl)
    try simp only [List.getElem_toArray, List.getElem_cons_zero, List.getElem_cons_succ, Act.put, List.setIfInBounds_toArray, List.set_cons_zero, List.set_cons_succ]
    clear inv
    have inv := invn
    clear invn
    refine F_take (i := 3) (v := ?_) rfl (by kernel_rfl) (by kernel_rfl) (by kernel_rfl) (fun _ _ _ h => h) inv (Or.inl ⟨by rfl, ?_⟩) (by assumption) (fun invn => ?_)
    rotate_left
    · (intro w hSw; (try dsimp only at hSw); go_simp; try with_reducible rfl)
    try simp only [List.getElem_toArray, List.getElem_cons_zero, List.getElem_cons_succ, Act.put, List.setIfInBounds_toArray, List.set_cons_zero, List.set_cons_succ]
    clear inv
    have inv := invn
    clear invn
    refine F_take (i := 4) (v := ?_) rfl (by kernel_rfl) (by kernel_rfl) (by kernel_rfl) (fun _ _ _ h => h) inv (Or.inl ⟨by rfl, ?_⟩) (by assumption) (fun invn => ?_)
    rotate_left
    · (intro w hSw; (try dsimp only at hSw); go_simp; try with_reducible rfl)
    try simp only [List.getElem_toArray, List.getElem_cons_zero, List.getElem_cons_succ, Act.put, List.setIfInBounds_toArray, List.set_cons_zero, List.set_cons_succ]
    clear inv
    have inv := invn
    clear invn
    refine F_take (i := 5) (v := ?_) rfl (by kernel_rfl) (by kernel_rfl) (by kernel_rfl) (fun _ _ _ h => h) inv (Or.inl ⟨by rfl, ?_⟩) (by assumption) (fun invn => ?_)
    rotate_left
    · (intro w hSw; (try dsimp only at hSw); go_simp; try with_reducible rfl)
    try simp only [List.getElem_toArray, List.getElem_cons_zero, List.getElem_cons_succ, Act.put, List.setIfInBounds_toArray, List.set_cons_zero, List.set_cons_succ]
    clear inv
    have inv := invn
    clear invn
    refine F_take (i := 6) (v := ?_) rfl (by kernel_rfl) (by kernel_rfl) (by kernel_rfl) (fun _ _ _ h => h) inv (Or.inl ⟨by rfl, ?_⟩) (by assumption) (fun invn => ?_)
    rotate_left
    · (intro w hSw; (try dsimp only at hSw); go_simp; try with_reducible rfl)
    try simp only [List.getElem_toArray, List.getElem_cons_zero, List.getElem_cons_succ, Act.put, List.setIfInBounds_toArray, List.set_cons_zero, List.set_cons_succ]
    clear inv
    have inv := invn
    clear invn
    refine F_take (i := 7) (v := ?_) rfl (by kernel_rfl) (by kernel_rfl) (by kernel_rfl) (fun _ _ _ h => h) inv (Or.inl ⟨by rfl, ?_⟩) (by assumption) (fun invn => ?_)
    rotate_left
    · (intro w hSw; (try dsimp only at hSw); go_simp; try with_reducible rfl)
    try simp only [List.getElem_toArray, List.getElem_cons_zero, List.getElem_cons_succ, Act.put, List.setIfInBounds_toArray, List.set_cons_zero, List.set_cons_succ]
    clear inv
    have inv := invn
    clear invn
    refine F_take (i := 8) (v := ?_) rfl (by kernel_rfl) (by kernel_rfl) (by kernel_rfl) (fun _ _ _ h => h) inv (Or.inl ⟨by rfl, ?_⟩) (by assumption) (fun invn => ?_)
    rotate_left
    · (intro w hSw; (try dsimp only at hSw); go_simp; try with_reducible rfl)
    try simp only [List.getElem_toArray, List.getElem_cons_zero, List.getElem_cons_succ, Act.put, List.setIfInBounds_toArray, List.set_cons_zero, List.set_cons_succ]
    clear inv
    have inv := invn
    clear invn
    refine F_take (i := 9) (v := ?_) rfl (by kernel_rfl) (by kernel_rfl) (by kernel_rfl) (fun _ _ _ h => h) inv (Or.inl ⟨by rfl, ?_⟩) (by assumption) (fun invn => ?_)
    rotate_left
    · (intro w hSw; (try dsimp only at hSw); go_simp; try with_reducible rfl)
    try simp only [List.getElem_toArray, List.getElem_cons_zero, List.getElem_cons_succ, Act.put, List.setIfInBounds_toArray, List.set_cons_zero, List.set_cons_succ]
    clear inv
    have inv := invn
    clear invn
    refine F_take (i := 10) (v := ?_) rfl (by kernel_rfl) (by kernel_rfl) (by kernel_rfl) (fun _ _ _ h => h) inv (Or.inl ⟨by rfl, ?_⟩) (by assumption) (fun invn => ?_)
    rotate_left
    · (intro w hSw; (try dsimp only at hSw); go_simp; try with_reducible rfl)
    try simp only [List.getElem_toArray, List.getElem_cons_zero, List.getElem_cons_succ, Act.put, List.setIfInBounds_toArray, List.set_cons_zero, List.set_cons_succ]
    clear inv
    have inv := invn
    clear invn
    refine F_two (i := 2) (j := 11) (by kernel_rfl) rfl rfl rfl rfl (by omega) inv (fun K hK => ?_) (fun K hK => ?_)
    all_goals (try simp only [List.getElem_toArray, List.getElem_cons_zero, List.getElem_cons_succ])
    · go_simp
      refine (nextVertices_any _ _ g a _ (GrV.keep (w' := w1.drew) HGV.out hb3.drew) (AuV.keep (w' := w1.drew) HAV.out hb3.drew) HGO.out HAO.out).mono ?_
      rintro e wA ⟨vA, rfl, hsA, hbA⟩
      rw [← HN.out] at hsA
      refine hK.out _ _ (kB5 hbA hS) (fun hSn invn => ?_)
      try simp only [List.getElem_toArray, List.getElem_cons_zero, List.getElem_cons_succ, Act.put, List.setIfInBounds_toArray, List.set_cons_zero, List.set_cons_succ]
      clear hK K inv hS
      have inv := invn
      have hS := hSn
      clear invn hSn
      refine F_one (i := 11) (by kernel_rfl) rfl rfl (by omega) inv (fun K hK => ?_)
      try simp only [List.getElem_toArray, List.getElem_cons_zero, List.getElem_cons_succ]
      go_simp
      refine hK.out _ _ (kA5 _ hS) (fun hSn invn => ?_)
      try simp only [List.getElem_toArray, List.getElem_cons_zero, List.getElem_cons_succ, Act.put, List.setIfInBounds_toArray, List.set_cons_zero, List.set_cons_succ]
      clear hK K inv hS
      have inv := invn
      have hS := hSn
      clear invn hSn
      refine F_one (i := 12) (by kernel_rfl) rfl rfl (by omega) inv (fun K hK => ?_)
      try simp only [List.getElem_toArray, List.getElem_cons_zero, List.getElem_cons_succ]
      go_simp
      refine (spread_any vA _ N (nextI g a) [S0] _ ((hsA.mono (Nat.zero_le _) (Nat.le_refl _)).keep ((Below.refl _ _).alloc (Nat.le_refl _) _)) (lit_nat wA _ S0) hN1 hN60 (by simp) HFL.out HNL.out).mono ?_
      rintro e wD ⟨vD, rfl, hoD, hbD⟩
      have hbF := below_trans hb3.drew (below_trans hbA (below_trans ((Below.refl wA.heap.size wA).alloc (Nat.le_refl _) _) hbD))
      have hsz := (below_trans hb3.drew (below_trans hbA ((Below.refl wA.heap.size wA).alloc (Nat.le_refl _) (.cells #[.int .i64 (S0 : Int)] 3)))).size
      have hoF := hoD.mono hsz (Nat.le_refl _)
      rw [← HF.out] at hoF
      have HOF := Lib.hid hoF
      obtain ⟨A5, n5', c5, rfl⟩ := hoD.shape
      clear hoF
      refine hK.out _ _ (kB5 hbD hS) (fun hSn invn => ?_)
      try simp only [List.getElem_toArray, List.getElem_cons_zero, List.getElem_cons_succ, Act.put, List.setIfInBounds_toArray, List.set_cons_zero, List.set_cons_succ]
      clear hK K inv hS
      have inv := invn
      have hS := hSn
      clear invn hSn
      refine F_last (i := 13) (by kernel_rfl) rfl rfl (by omega) (by kernel_rfl) (fun K hK => ?_)
      go_simp
      refine hK _ _ ?_
      clear hK K inv hS
      clear m1 m1' m2 m2' m3 m4
      go_wp2_with fail
      go_ret
      exact ⟨_, rfl, HOF.out, hbF⟩
    · go_simp
      have hsA0 := lit_nat w1.drew 3 S0
      have hba := (Below.refl w1.drew.heap.size w1.drew).alloc (Nat.le_refl _) (.cells #[.int .i64 (S0 : Int)] 3)
      have hbz := below_trans hb3.drew hba
      refine hK.out _ _ (kA5 _ hS) (fun hSn invn => ?_)
      try simp only [List.getElem_toArray, List.getElem_cons_zero, List.getElem_cons_succ, Act.put, List.setIfInBounds_toArray, List.set_cons_zero, List.set_cons_succ]
      clear hK K inv hS
      have inv := invn
      have hS := hSn
      clear invn hSn
      refine F_one (i := 2) (by kernel_rfl) rfl rfl (by omega) inv (fun K hK => ?_)
      try simp only [List.getElem_toArray, List.getElem_cons_zero, List.getElem_cons_succ]
      go_simp
      refine (nextVertices_any _ _ g a _ (HGV.out.keep hbz) (HAV.out.keep hbz) HGO.out HAO.out).mono ?_
      rintro e wA ⟨vA, rfl, hsA, hbA⟩
      rw [← HN.out] at hsA
      refine hK.out _ _ (kB5 hbA hS) (fun hSn invn => ?_)
      try simp only [List.getElem_toArray, List.getElem_cons_zero, List.getElem_cons_succ, Act.put, List.setIfInBounds_toArray, List.set_cons_zero, List.set_cons_succ]
      clear hK K inv hS
      have inv := invn
      have hS := hSn
      clear invn hSn
      refine F_one (i := 12) (by kernel_rfl) rfl rfl (by omega) inv (fun K hK => ?_)
      try simp only [List.getElem_toArray, List.getElem_cons_zero, List.getElem_cons_succ]
      go_simp
      refine (spread_any vA _ N (nextI g a) [S0] _ (hsA.mono (Nat.zero_le _) (Nat.le_refl _)) (SlE.keep hsA0 hbA) hN1 hN60 (by simp) HFL.out HNL.out).mono ?_
      rintro e wD ⟨vD, rfl, hoD, hbD⟩
      have hbF := below_trans (below_trans hbz hbA) hbD
      have hoF := hoD.mono (below_trans hbz hbA).size (Nat.le_refl _)
      rw [← HF.out] at hoF
      have HOF := Lib.hid hoF
      obtain ⟨A5, n5', c5, rfl⟩ := hoD.shape
      clear hoF
      refine hK.out _ _ (kB5 hbD hS) (fun hSn invn => ?_)
      try simp only [List.getElem_toArray, List.getElem_cons_zero, List.getElem_cons_succ, Act.put, List.setIfInBounds_toArray, List.set_cons_zero, List.set_cons_succ]
      clear hK K inv hS
      have inv := invn
      have hS := hSn
      clear invn hSn
      refine F_last (i := 13) (by kernel_rfl) rfl rfl (by omega) (by kernel_rfl) (fun K hK => ?_)
      go_simp
      refine hK _ _ ?_
      clear hK K inv hS
      clear m1 m1' m2 m2' m3 m4
      go_wp2_with fail
      go_ret
      exact ⟨_, rfl, HOF.out, hbF⟩
end Go.Proofs.Ytmlfkledhnlkeaa

/- append of a whole list to a row of the call's own, from whatever slice reads as the list. Over any program. -/
namespace Go.Proofs.Ytmlfkledhnlkeaa
set_option linter.unusedVariables false
set_option linter.unusedSimpArgs false
open Go.ChangeShapes Go.WideShapes Go.ChangeAt Go.RowKit
section
variable {P : Program} {w : World}
theorem run_append_nil0 (base : Nat) (t ty e : TypeId) (i : TypeInfo) (size : Nat) (ht : P.underlying t = some (.slice e)) (hi : P.info? e = some i) (v : Value) (n : Nat) (xs : List Value) (hown : w.ownsRow base e size v n xs) (c : Nat) :
    (Builtin.append_ #[t, t] ty #[v, .slice none 0 c]).run P w = .ok v w := by
  obtain ⟨_, h2⟩ := hown
  rcases h2 with ⟨rfl, _⟩ | ⟨g, cap, cur, rfl, _, _, hnc, _⟩
  · simp [Builtin.append_, run_underlying ht, sizeOf, typeInfo, hi, Builtin.lenOf, Builtin.firstCells]
  · simp [Builtin.append_, run_underlying ht, sizeOf, typeInfo, hi, Builtin.lenOf, Builtin.firstCells, hnc, storeCells]
theorem flat_one {α : Type} {E : α → List Value} {xs : List α} (h1 : ∀ x, ∀ u ∈ E x, u.oneCell' = true) : ∀ u ∈ xs.flatMap E, u.oneCell' = true := fun u hu => by
  obtain ⟨x, _, hx⟩ := List.mem_flatMap.1 hu
  exact h1 x u hx
theorem flat_lenE {α : Type} {E : α → List Value} {k : Nat} (hE : ∀ x, (E x).length = k) : ∀ xs : List α, (xs.flatMap E).length = xs.length * k
  | [] => by simp
  | x :: xs => by rw [List.flatMap_cons, List.length_append, hE, flat_lenE hE xs, List.length_cons, Nat.succ_mul, Nat.add_comm]
/-- all cells of a list lie one behind the other -/
theorem flat_cells {α : Type} {E : α → List Value} {k : Nat} (hE : ∀ x, (E x).length = k) (hk : 0 < k) {b o : Nat} {ys : List α} (h : ∀ i x, ys[i]? = some x → ∀ j u, (E x)[j]? = some u → w.cell? ⟨b, o + i * k + j, none⟩ = some u) :
    ∀ j u, (ys.flatMap E)[j]? = some u → w.cell? ((⟨b, o, none⟩ : Addr).add j) = some u := by
  intro j u hu
  have hl := (List.getElem?_eq_some_iff.1 hu).1
  rw [flat_lenE hE] at hl
  have hi : j / k < ys.length := Nat.div_lt_of_lt_mul (by rw [Nat.mul_comm]; exact hl)
  have hx : ys[j / k]? = some ys[j / k] := List.getElem?_eq_getElem hi
  have hj : j % k < (E ys[j / k]).length := by rw [hE]; exact Nat.mod_lt _ hk
  have hf := flat_at hE hx (j % k) _ (List.getElem?_eq_getElem hj)
  have hjj : j / k * k + j % k = j := by rw [Nat.mul_comm]; exact Nat.div_add_mod j k
  rw [hjj, hu] at hf
  injection hf with hf
  have hc := h _ _ hx (j % k) _ (List.getElem?_eq_getElem hj)
  have hadd : (⟨b, o, none⟩ : Addr).add j = ⟨b, o + j, none⟩ := by unfold Addr.add; split <;> simp_all
  rw [hadd, hf, ← hc]
  congr 2
  omega
theorem run_appendL {α : Type} (E : α → List Value) {t e : TypeId} {z : Value} {k bytes : Nat} (el : ElemOk P t e z k bytes) (hE : ∀ x, (E x).length = k) (h1 : ∀ x, ∀ u ∈ E x, u.oneCell' = true)
    (base : Nat) (v : Value) (xs ys : List α) (hown : w.ownsRow base e k v xs.length (xs.flatMap E)) (lo hi : Nat) (y : Value) (hy : SlI lo hi w E k y ys) (hbytes : (xs.length + ys.length) * bytes ≤ 140737488355328) (hb0 : 0 < bytes) (hbase : base ≤ w.heap.size) (ty : TypeId) :
    ∃ v' w', (Builtin.append_ #[t, t] ty #[v, y]).run P w = .ok v' w' ∧ w'.ownsRow base e k v' (xs ++ ys).length ((xs ++ ys).flatMap E) ∧ w.grownBy w' v.ownBlock ∧ (v'.ownBlock = v.ownBlock ∨ v'.ownBlock = some w.heap.size) := by
  obtain ⟨i, hi, hz0, hz1, hz2⟩ := info_parts el.info
  have hlen : xs.length + ys.length ≤ 140737488355328 := Nat.le_trans (Nat.le_mul_of_pos_right _ hb0) hbytes
  obtain ⟨A, c, rfl, _, _, hx⟩ := hy
  have key : ∀ a : Addr, A = some a → (∀ j u, (ys.flatMap E)[j]? = some u → w.cell? (a.add j) = some u) → ∃ v' w', (Builtin.append_ #[t, t] ty #[v, .slice A ys.length c]).run P w = .ok v' w' ∧ w'.ownsRow base e k v' (xs ++ ys).length ((xs ++ ys).flatMap E) ∧ w.grownBy w' v.ownBlock ∧ (v'.ownBlock = v.ownBlock ∨ v'.ownBlock = some w.heap.size) := by
    intro a ha hc
    subst ha
    obtain ⟨v', w', hr, h2, h3, _, h5⟩ := run_append_own_at (P := P) w base t ty e i z k bytes el.und hi hz0 hz1 hz2 el.zc el.pos v xs.length (xs.flatMap E) hown a ys.length c (ys.flatMap E) (flat_lenE hE ys) hc (flat_one h1) (by unfold maxLen; omega) hbytes hbase
    exact ⟨v', w', hr, by rw [List.flatMap_append, List.length_append]; exact h2, h3, h5⟩
  cases ys with
  | nil =>
    cases A with
    | none => exact ⟨v, w, run_append_nil0 base t ty e i k el.und hi v _ _ hown c, by simpa using hown, World.grownBy.refl w _, .inl rfl⟩
    | some a => exact key a rfl (fun j u hu => by simp at hu)
  | cons x ys =>
    obtain ⟨b, o, hA, -, -, -⟩ := hx 0 x rfl
    refine key ⟨b, o, none⟩ hA (flat_cells hE el.pos fun i x hi j u hu => ?_)
    obtain ⟨b', o', hA', -, -, hc⟩ := hx i x hi
    rw [hA] at hA'
    injection hA' with hA'
    injection hA' with e1 e2
    subst e1 e2
    exact hc j u hu
theorem wpList_appendL {α : Type} (E : α → List Value) {ops : Array Oper} {rest : List Oper} {o : Oper} {a : Act} {Q : Exit → Act → World → Prop} {t e : TypeId} {z : Value} {k bytes : Nat} (el : ElemOk P t e z k bytes) (hE : ∀ x, (E x).length = k) (h1 : ∀ x, ∀ u ∈ E x, u.oneCell' = true)
    (hgd : o.guard = none) (s y : Operand) (ho : o.op = .call { callee := .builtin .append, args := #[s, y], argTypes := #[t, t] })
    (base : Nat) (v : Value) (xs ys : List α) (hs : a.eval s = v) (hown : w.ownsRow base e k v xs.length (xs.flatMap E)) (lo hi : Nat) (yv : Value) (hyv : a.eval y = yv) (hy : SlI lo hi w E k yv ys) (hbytes : (xs.length + ys.length) * bytes ≤ 140737488355328) (hb0 : 0 < bytes) (hbase : base ≤ w.heap.size)
    (h : ∀ v' w', w'.ownsRow base e k v' (xs ++ ys).length ((xs ++ ys).flatMap E) → w.grownBy w' v.ownBlock → (v'.ownBlock = v.ownBlock ∨ v'.ownBlock = some w.heap.size) → wpList P ops Q rest (a.put o.dst v') w') : wpList P ops Q (o :: rest) a w := by
  refine wpList_plain hgd fun K hK => ?_
  obtain ⟨v', w', hr, h2, h3, h5⟩ := run_appendL E el hE h1 base v xs ys hown lo hi yv hy hbytes hb0 hbase o.type
  unfold Oper.wp execOp
  simp only [ho, resolve, invoke, builtin, Sem.run_bind, Sem.run_pure, Result.andThen_ok, List.map_toArray, List.map_cons, List.map_nil, hs, hyv, hr]
  exact hK _ _ (h v' w' h2 h3 h5)
end
end Go.Proofs.Ytmlfkledhnlkeaa

/- A row of one's own, cut short: what 's[:m]' leaves is a row of one's own. -/
namespace Go.Proofs.Ytmlfkledhnlkeaa
set_option linter.unusedVariables false
set_option linter.unusedSimpArgs false
open Go.ChangeShapes Go.WideShapes Go.ChangeAt Go.RowKit

theorem ownsRow_take {W : World} {base k n m g cap : Nat} {e : TypeId} {cs : List Value} (h : W.ownsRow base e k (.slice (some ⟨g, 0, none⟩) n cap) n cs) (hm : m ≤ n) : W.ownsRow base e k (.slice (some ⟨g, 0, none⟩) m cap) m (cs.take (m * k)) := by
  obtain ⟨hl, hs⟩ := h
  have hmk : m * k ≤ n * k := Nat.mul_le_mul_right k hm
  refine ⟨by rw [List.length_take, hl]; omega, ?_⟩
  rcases hs with ⟨h1, _⟩ | ⟨g', cap', cur, hv, hg, hh, hnc, hcm, hsz, htk⟩
  · cases h1
  · simp only [Value.slice.injEq, Option.some.injEq, Addr.mk.injEq, and_true, true_and] at hv
    obtain ⟨rfl, rfl⟩ := hv
    refine .inr ⟨g, cap, cur, rfl, hg, hh, by omega, hcm, hsz, ?_⟩
    rw [← htk, List.take_take]
    congr 1
    omega
end Go.Proofs.Ytmlfkledhnlkeaa

/- The program's copyInts and ascending: a copy of numbers; the same in ascending order, each once. -/
namespace Go.Proofs.Ytmlfkledhnlkeaa
set_option linter.unusedVariables false
set_option linter.unusedSimpArgs false
open Go.ChangeShapes Go.WideShapes Go.ChangeAt Go.RowKit Go.Sort
attribute [local go_sem] ext_cell ext_frozen ext_lt ext_lt1 ext_lt2 ext_lt3 ltn2 ltn3 ltn13 lts1 lts2 lts3

theorem flatI_map (xs : List Int) : xs.flatMap cI = xs.map (Value.int .i64) := by
  induction xs with
  | nil => rfl
  | cons x xs ih => rw [List.flatMap_cons, List.map_cons, ih]; rfl
theorem only_ahead (lo hi : Nat) (w : World) (n : Nat) : Only lo hi w (Sort.ahead w n) := ⟨rfl, rfl, rfl, Nat.le_refl _, fun _ _ _ => rfl⟩
theorem only_grow (lo hi : Nat) (w : World) (os : Array Obj) : Only lo hi w (grow w os) := ⟨rfl, rfl, rfl, by simp [grow], fun n hn _ => by simp [grow, Array.getElem?_append, hn]⟩
theorem only_put {α : Type} [Inhabited α] (enc : α → Value) (w : World) (g off : Nat) (d : Array α) : Only g (g + 1) w (putRow enc w g off d) :=
  ⟨rfl, rfl, rfl, by simp [putRow, mapBlock], fun n hn ho => by simp only [putRow, mapBlock, Array.getElem?_modify]; rw [if_neg (by omega)]⟩
theorem row_put {w : World} {base g n cap : Nat} {e : TypeId} {cs : List Value} (h : w.ownsRow base e 1 (.slice (some ⟨g, 0, none⟩) n cap) n cs) {ds : List Int} (hd : ds.length = n) :
    (putRow (Value.int .i64) w g 0 ds.toArray).ownsRow base e 1 (.slice (some ⟨g, 0, none⟩) n cap) n (ds.flatMap cI) := by
  obtain ⟨hl, hs⟩ := h
  rw [flatI_map]
  refine ⟨by simp [hd], ?_⟩
  rcases hs with ⟨h1, _⟩ | ⟨g', cap', cur, hv, hg, hh, hnc, hcm, hsz, htk⟩
  · cases h1
  · simp only [Value.slice.injEq, Option.some.injEq, Addr.mk.injEq, and_true, true_and] at hv
    obtain ⟨rfl, rfl⟩ := hv
    refine .inr ⟨g, cap, putCells (Value.int .i64) 0 ds.toArray cur, rfl, hg, ?_, hnc, hcm, by simp [putCells, hsz], ?_⟩
    · simp [putRow, mapBlock, Array.getElem?_modify, hh, onCells]
    · apply List.ext_getElem?
      intro k
      rw [List.getElem?_take]
      by_cases hk : k < n * 1
      · rw [if_pos hk]
        have hk1 : k < n := by omega
        have hkc : k < cur.size := by omega
        have hkd : k < ds.length := by omega
        simp [putCells, hkc, hkd, getElem!_pos]
      · rw [if_neg hk, List.getElem?_eq_none (by simp; omega)]
theorem holds_own {w : World} {base g n cap : Nat} {e : TypeId} {zs : List Int} (h : w.ownsRow base e 1 (.slice (some ⟨g, 0, none⟩) n cap) n (zs.flatMap cI)) (hz : zs.length = n) : Holds (Value.int .i64) w g 0 zs.toArray := by
  intro j hj
  have hj' : j < zs.length := by simpa using hj
  refine ⟨?_, by rw [Nat.zero_add]; exact World.ownsRow.frozenAt h j⟩
  rw [Nat.zero_add, World.ownsRow.cellAt h j (by omega), flatI_map, List.getElem?_map, List.getElem?_eq_getElem hj', get_bang hj']
  rfl

set_option maxHeartbeats 1000000 in
theorem copyInts_any (v : Value) (xs : List Int) (w : World) (hv : SlE w cI 1 v xs) (hn : xs.length ≤ 1000000) :
    Calls Try.prog 122 #[v] w fun e w' => ∃ v', e = .returned v' ∧ Own w.heap.size w'.heap.size w' 3 cI 1 v' xs ∧ Below w.heap.size w w' := by
  have hv0 := hv
  obtain ⟨A, c, rfl, hl, hm, -⟩ := SlE.form hv
  have hba : Below w.heap.size w (w.alloc (.cells #[] 3)) := (Below.refl _ _).alloc (Nat.le_refl _) _
  have hv1 := SlE.keep hv0 hba
  have hrow := World.ownsRow_lit (base := w.heap.size) (e := 3) (size := 1) w #[] 0 (Nat.le_refl _) (by decide) rfl
  have HV := Lib.hid hv1
  have HR := Lib.hid hrow
  clear hv hv0 hv1 hrow
  go_enter Try.func122, Try.ntmps122
  go_wp2_with (at_builtin; (refine wpList_appendL cI elInt cI_len cI_one rfl _ _ rfl w.heap.size _ [] xs (by rfl) HR.out 0 _ _ (by rfl) HV.out (by simp; omega) (by omega) (by simp) ?_); intro v' w4 hrow' hgr4 hat4)
  have hown := Own.of_row (xs := xs) hrow' rfl rfl
  have hgr := hgr4
  have hbel := (hba.trans (own_below HR.out (by simp) hgr4))
  obtain ⟨A2, n2, c2, rfl⟩ := hown.shape
  have HO := Lib.hid hown
  clear hown hgr hgr4 hrow' hat4
  go_wp2_with fail
  go_ret
  exact ⟨_, rfl, HO.out, hbel⟩

set_option maxHeartbeats 2000000 in
theorem ascending_any (v : Value) (xs : List Int) (w : World) (hv : SlE w cI 1 v xs) (hn : xs.length ≤ 1000000) :
    Calls Try.prog 147 #[v] w fun e w' => ∃ v', e = .returned v' ∧ Own w.heap.size w'.heap.size w' 3 cI 1 v' (ascL xs) ∧ Below w.heap.size w w' := by
  have hc := copyInts_any v xs w hv hn
  have HC := Lib.hid hc
  clear hc hv
  obtain ⟨R, hR⟩ : ∃ R, R = ascL xs := ⟨_, rfl⟩
  rw [← hR]
  have HR := Lib.hid hR
  clear hR
  go_enter Try.func147, Try.ntmps147
  go_wp2_with fail
  refine HC.out.mono ?_
  rintro e w1 ⟨v1, rfl, ho1, hb1⟩
  cases xs with
  | nil =>
    have hr0 : R = [] := by rw [HR.out]; simp [ascL, Lib.compact, Lib.compactUpTo]
    subst hr0
    obtain ⟨A1, c1, rfl, -, -, -⟩ := ho1.form cI_len
    have HO := Lib.hid ho1
    clear ho1
    simp only [List.length_nil] at HO ⊢
    go_wp2_with fail
    refine (Try.slices_Sort_int_none A1 c1 _).mono ?_
    rintro e w2 ⟨rfl, rfl⟩
    go_wp2_with fail
    refine (Try.slices_Compact_int_empty A1 c1 _).mono ?_
    rintro e w3 ⟨rfl, rfl⟩
    go_wp2_with fail
    go_ret
    exact ⟨_, rfl, HO.out, hb1⟩
  | cons x xs =>
    obtain ⟨zs, hzs⟩ : ∃ zs, zs = x :: xs := ⟨_, rfl⟩
    have hz0 : zs.length ≠ 0 := by rw [hzs]; simp
    rw [← hzs] at HR ho1 hn
    clear hzs HC
    have hr1 := ho1.1
    obtain ⟨g, c, rfl, hg, hgw, hcl, hcm⟩ := own_some hr1 hz0
    have hms : (zs.mergeSort fun x y => decide (x ≤ y)).length = zs.length := List.length_mergeSort _
    obtain ⟨ys, hys⟩ : ∃ ys, ys = zs.mergeSort fun x y => decide (x ≤ y) := ⟨_, rfl⟩
    rw [← hys] at hms
    have hsort := Try.slices_Sort_int g 0 c zs w1 (holds_own hr1 rfl) hgw (by omega)
    rw [← hys] at hsort
    have HS := Lib.hid hsort
    have HR1 := Lib.hid hr1
    have HRY := Lib.hid (show R = Lib.compact ys by rw [HR.out, ascL, hys])
    clear hsort hr1 hys ho1 HR
    go_wp2_with fail
    refine HS.out.mono ?_
    rintro e w2 ⟨rfl, n, os, rfl⟩
    have hon := ((only_ahead g (g + 1) w1 n).trans (only_put (Value.int .i64) _ g 0 ys.toArray)).trans (only_grow g (g + 1) _ os)
    have hr2 : (grow (putRow (Value.int .i64) (Sort.ahead w1 n) g 0 ys.toArray) os).ownsRow w.heap.size 3 1 (.slice (some ⟨g, 0, none⟩) zs.length c) zs.length (ys.flatMap cI) := by
      have h := row_put (w := Sort.ahead w1 n) (ds := ys) (cs := zs.flatMap cI) (by exact HR1.out) hms
      exact ownsRow_block h fun b hb => by
        have hlt := (h.lt b hb).2
        exact (only_grow 0 0 (putRow (Value.int .i64) (Sort.ahead w1 n) g 0 ys.toArray) os).block b hlt (.inr (Nat.zero_le _))
    have HON := Lib.hid hon
    have HR2 := Lib.hid hr2
    generalize grow (putRow (Value.int .i64) (Sort.ahead w1 n) g 0 ys.toArray) os = w2 at *
    clear hon hr2 HS HR1
    have hcomp := Try.slices_Compact_int g 0 c ys w2 (holds_own HR2.out hms) (by omega) (by omega)
    rw [hms] at hcomp
    have HCO := Lib.hid hcomp
    clear hcomp
    go_wp2_with fail
    refine HCO.out.mono ?_
    rintro e w3 ⟨rfl, q, rfl⟩
    have hcl2 := Lib.compact_length_le ys
    have hr3 : (putRow (Value.int .i64) (Sort.ahead w2 q) g 0 (Lib.compact ys ++ List.replicate (zs.length - (Lib.compact ys).length) 0).toArray).ownsRow w.heap.size 3 1 (.slice (some ⟨g, 0, none⟩) zs.length c) zs.length ((Lib.compact ys ++ List.replicate (zs.length - (Lib.compact ys).length) 0).flatMap cI) :=
      row_put (w := Sort.ahead w2 q) (cs := ys.flatMap cI) (by exact HR2.out) (by rw [List.length_append, List.length_replicate]; omega)
    have hr4 := ownsRow_take hr3 (show (Lib.compact ys).length ≤ zs.length by omega)
    have htk : ((Lib.compact ys ++ List.replicate (zs.length - (Lib.compact ys).length) 0).flatMap cI).take ((Lib.compact ys).length * 1) = (Lib.compact ys).flatMap cI := by
      rw [List.flatMap_append, List.take_left' (by rw [flatI_map]; simp)]
    rw [htk, ← HRY.out] at hr4
    have hon := HON.out.trans ((only_ahead g (g + 1) w2 q).trans (only_put (Value.int .i64) _ g 0 (Lib.compact ys ++ List.replicate (zs.length - (Lib.compact ys).length) 0).toArray))
    have hown := Own.of_row (xs := R) hr4 rfl rfl
    have HO := Lib.hid hown
    have hfin : Below w.heap.size w _ := hb1.trans (hon.below hg hb1.size)
    clear hr3 hr4 htk hon hown
    rw [← HRY.out] at *
    go_wp2_with fail
    go_ret
    exact ⟨_, rfl, HO.out, hfin⟩
end Go.Proofs.Ytmlfkledhnlkeaa

/- The program's AnswersFrom and HasAnswer. -/
namespace Go.Proofs.Ytmlfkledhnlkeaa
set_option linter.unusedVariables false
set_option linter.unusedSimpArgs false
open Go.ChangeShapes Go.WideShapes Go.ChangeAt Go.RowKit
attribute [local go_sem] ext_cell ext_frozen ext_lt ext_lt1 ext_lt2 ext_lt3 ltn2 ltn3 ltn13 lts1 lts2 lts3

theorem SlI.intI {lo hi : Nat} {w : World} {A : Option Addr} {n c : Nat} {xs : List Int} (h : SlI lo hi w cI 1 (.slice A n c) xs) {i : Nat} {x : Int} (hx : xs[i]? = some x) :
    ∃ b o, A = some ⟨b, o, none⟩ ∧ lo ≤ b ∧ b < hi ∧ w.cell? ⟨b, o + i, none⟩ = some (.int .i64 x) := by
  obtain ⟨A', c', hv, _, _, h3⟩ := h
  injection hv with h1 _ _
  subst h1
  obtain ⟨b, o, e, g1, g2, hc⟩ := h3 i x hx
  exact ⟨b, o, e, g1, g2, by simpa using hc 0 _ rfl⟩
set_option maxHeartbeats 4000000 in
set_option maxRecDepth 100000 in
theorem implAnswersFrom (vg va : Value) (g : Gr) (a : Au) (x : Int) (w : World) (hgv : GrV 0 w.heap.size w vg g) (hav : AuV 0 w.heap.size w va a) :
    Calls Try.prog 104 #[vg, va, .int .i64 x] w fun e w' => ∃ v', e = .returned v' ∧ Own w.heap.size w'.heap.size w' 3 cI 1 v' (ansL g a x) ∧ Below w.heap.size w w' := by
  have hgv0 := hgv
  have hav0 := hav
  obtain ⟨A1, c1, A2, c2, rfl, hl1, hm1, hl2, hm2, hC1, -⟩ := hgv.form
  obtain ⟨ac, nx, rfl, hac, hnx⟩ := hav
  obtain ⟨A3, c3, rfl, hl3, hm3, -⟩ := SlE.form hac
  obtain ⟨A4, n4, c4, rfl⟩ := hnx.shape
  have hb0 : Below w.heap.size w ((w.alloc (.cells #[.slice A1 g.vals.length c1, .slice A2 g.edges.length c2] 48)).alloc (.cells #[.int .i64 a.start, .slice A3 a.accept.length c3, .slice A4 n4 c4] 50)) := ((Below.refl _ _).alloc (Nat.le_refl _) _).alloc (by simp) _
  have HGV := Lib.hid hgv0
  have HAV := Lib.hid hav0
  have HC1 := Lib.hid hC1
  clear hgv hac hnx hgv0 hav0 hC1
  go_enter Try.func104, Try.ntmps104
  go_wp2_with fail
  obtain ⟨W0, hW0⟩ : ∃ W0, W0 = ((w.alloc (.cells #[.slice A1 g.vals.length c1, .slice A2 g.edges.length c2] 48)).alloc (.cells #[.int .i64 a.start, .slice A3 a.accept.length c3, .slice A4 n4 c4] 50)).alloc (.cells #[] 3) := ⟨_, rfl⟩
  have hb0 : Below w.heap.size w W0 := by rw [hW0]; exact hb0.alloc hb0.size _
  rw [← hW0]
  have bx : Blk W0 w.heap.size 48 #[.slice A1 g.vals.length c1, .slice A2 g.edges.length c2] := by rw [hW0]; exact ((Blk.new w _ _ w.heap.size rfl).alloc _).alloc _
  have by_ : Blk W0 (w.heap.size + 1) 50 #[.int .i64 a.start, .slice A3 a.accept.length c3, .slice A4 n4 c4] := by rw [hW0]; exact (Blk.new (w.alloc _) _ _ (w.heap.size + 1) (by simp)).alloc _
  have hrow0 : W0.ownsRow (w.heap.size + 1 + 1) 3 1 (.slice (some ⟨w.heap.size + 1 + 1, 0, none⟩) 0 0) ([] : List Int).length (([] : List Int).flatMap cI) := by
    rw [hW0]
    have h := World.ownsRow_lit (base := w.heap.size + 1 + 1) (e := 3) (size := 1) ((w.alloc (.cells #[.slice A1 g.vals.length c1, .slice A2 g.edges.length c2] 48)).alloc (.cells #[.int .i64 a.start, .slice A3 a.accept.length c3, .slice A4 n4 c4] 50)) #[] 0 (by simp) (by decide) rfl
    simpa using h
  have x0 : W0.cell? ⟨w.heap.size, 0, none⟩ = some (.slice A1 g.vals.length c1) := by exact bx.cell 0
  have x1 : W0.cell? ⟨w.heap.size, 1, none⟩ = some (.slice A2 g.edges.length c2) := by exact bx.cell 1
  have y0 : W0.cell? ⟨w.heap.size + 1, 0, none⟩ = some (.int .i64 a.start) := by exact by_.cell 0
  have y1 : W0.cell? ⟨w.heap.size + 1, 1, none⟩ = some (.slice A3 a.accept.length c3) := by exact by_.cell 1
  have y2 : W0.cell? ⟨w.heap.size + 1, 2, none⟩ = some (.slice A4 n4 c4) := by exact by_.cell 2
  have l0 := by_.lt
  have l00 := bx.lt
  have HROW0 := Lib.hid hrow0
  have hsW : W0.heap.size = w.heap.size + 1 + 1 + 1 := by rw [hW0]; simp
  have hsW' : w.heap.size + 1 + 1 < W0.heap.size := by omega
  have HSW := Lib.hid hsW
  clear hW0 bx by_ hrow0 hsW
  refine (implDistancesFrom _ _ g a x W0 (HGV.out.keep hb0) (HAV.out.keep hb0)).mono ?_
  rintro e w1 ⟨v1, rfl, ho1, hb1⟩
  have hb2 := below_trans hb0 hb1
  have x0 := kcell hb1 x0
  have x1 := kcell hb1 x1
  have y0 := kcell hb1 y0
  have y1 := kcell hb1 y1
  have y2 := kcell hb1 y2
  have hs1 := hb1.size
  have hs0 := hb0.size
  have l0 := Nat.lt_of_lt_of_le l0 hs1
  have l00 := Nat.lt_of_lt_of_le l00 hs1
  have HROW1 := Lib.hid (ownsRow_below HROW0.out hb1 (Nat.le_refl _))
  have HC6 := Lib.hid (ho1.sl cI_len)
  obtain ⟨A6, c6, rfl, hl6, hm6, -⟩ := ho1.form cI_len
  clear ho1 hb1 hb0 HROW0
  cases hk : (wi x 0 ((g.vals.length : Int) - 1) && (grOk g && auOk a)) with
  | false =>
    have hd0 : distFrom g a x = [] := by rw [distFrom, hk]; rfl
    have hr0 : ansL g a x = [] := by rw [ansL, hk]; rfl
    rw [hd0, List.length_nil]
    have has := ascending_any (.slice (some ⟨w.heap.size + 1 + 1, 0, none⟩) 0 0) [] w1 (((Own.of_row (xs := ([] : List Int)) HROW1.out rfl rfl).sl cI_len).all (Nat.le_refl _)) (by simp)
    rw [show ascL [] = [] by simp [ascL, Lib.compact, Lib.compactUpTo], ← hr0] at has
    have HAS := Lib.hid has
    clear hk hd0 hr0 has HC6
    go_wp2_with fail
    go_loopw [7, 20] (fun oo ii wr => oo = .slice (some ⟨w.heap.size + 1 + 1, 0, none⟩) 0 0 ∧ ii = .int .i64 0 ∧ wr = w1) (fun _ _ _ => 0)
    case atStart => exact ⟨rfl, rfl, rfl⟩
    case round =>
      obtain ⟨rfl, rfl, rfl⟩ := hrel
      go_wp2_with fail
      refine HAS.out.mono ?_
      rintro e w2 ⟨v2, rfl, ho2, hb3⟩
      have HO := Lib.hid (ho2.mono hb2.size (Nat.le_refl _))
      obtain ⟨A9, n9, c9, rfl⟩ := ho2.shape
      clear ho2
      go_wp2_with fail
      go_ret
      exact ⟨_, rfl, HO.out, below_trans hb2 hb3⟩
  | true =>
    have hasc := ansL_asc hk
    have hdl := distFrom_len hk
    simp only [Bool.and_eq_true, wi_iff] at hk
    obtain ⟨⟨hx0, hx1⟩, hgo, ha⟩ := hk
    have hg := grOk_iff.1 hgo
    have hn5 := hg.n5
    have hn12 := (auOk_iff.1 ha).1.2
    have hn1 := (auOk_iff.1 ha).1.1
    obtain ⟨N, hN⟩ : ∃ N, N = g.vals.length * a.accept.length := ⟨_, rfl⟩
    have hN60 : N ≤ 60 := by rw [hN]; exact Nat.mul_le_mul hn5 hn12
    rw [← hN] at hdl hasc
    generalize distFrom g a x = D at *
    rw [hdl] at hl6 ⊢
    have HDL := Lib.hid hdl
    have HASC := Lib.hid hasc
    have HN := Lib.hid hN
    have HGO := Lib.hid hg
    have HAO := Lib.hid ha
    clear hdl hasc hN hg hgo ha hx0 hx1
    go_wp2_with fail
    have hsw := HSW.out
    obtain ⟨gO, hgO⟩ : ∃ gO, gO = w.heap.size + 1 + 1 := ⟨_, rfl⟩
    rw [← hgO] at HROW1 hsW' hsw ⊢
    have hgw : w.heap.size + 1 < gO := by omega
    clear hgO
    go_loopw [7, 20] (fun oo ii wr => ∃ i : Nat, i ≤ N ∧ ii = .int .i64 (i : Int) ∧ wr.ownsRow gO 3 1 oo (ansF g a D i).length ((ansF g a D i).flatMap cI) ∧ Only gO (gO + 1) w1 wr ∧ (∀ b, oo.ownBlock = some b → b = gO ∨ w1.heap.size ≤ b)) (fun _ ii _ => N - (intOf ii).toNat)
    case atStart => exact ⟨0, Nat.zero_le _, rfl, HROW1.out, Only.refl _ _ _, fun b hb => by cases hb; exact .inl rfl⟩
    case round =>
      clear HROW1
      obtain ⟨i, hi, rfl, hrow, hon, hob⟩ := hrel
      have x0 := ocell hon x0 l00 (.inl (by omega))
      have x1 := ocell hon x1 l00 (.inl (by omega))
      have y0 := ocell hon y0 l0 (.inl (by omega))
      have y1 := ocell hon y1 l0 (.inl (by omega))
      have y2 := ocell hon y2 l0 (.inl (by omega))
      have hsz := hon.size
      have l0 := Nat.lt_of_lt_of_le l0 hsz
      have l00 := Nat.lt_of_lt_of_le l00 hsz
      have hbw := hb2.trans (hon.below (B := w.heap.size) (by omega) hb2.size)
      have HBW := Lib.hid hbw
      have HROW := Lib.hid hrow
      have HOB := Lib.hid hob
      have HON := Lib.hid hon
      have hfl := ansF_len g a D i
      clear hrow hob hbw hon
      by_cases hlt : i < N
      · have hgp : g.vals.length * a.accept.length = N := HN.out.symm
        obtain ⟨X, hX⟩ : ∃ X, X = i / a.accept.length := ⟨_, rfl⟩
        obtain ⟨S, hS⟩ : ∃ S, S = i % a.accept.length := ⟨_, rfl⟩
        have hXl : X < g.vals.length := by rw [hX]; exact Nat.div_lt_of_lt_mul (by rw [Nat.mul_comm, hgp]; exact hlt)
        have hSl : S < a.accept.length := by rw [hS]; exact Nat.mod_lt _ hn1
        have t1 : (i : Int).tdiv (a.accept.length : Int) = (X : Int) := by rw [hX]; rfl
        have t2 : (i : Int).tmod (a.accept.length : Int) = (S : Int) := by rw [hS]; rfl
        have hn0 : ((a.accept.length : Int) == 0) = false := by simp only [beq_eq_false_iff_ne, ne_eq]; omega
        have hae : a.accept ≠ [] := by intro h; rw [h] at hn1; simp at hn1
        have hdi := getD_of (D := D) (k := i) (by have := HDL.out; omega)
        obtain ⟨b6, o6, rfl, hb60, hb6, d6⟩ := HC6.out.intI hdi
        have d6 := ocell HON.out d6 hb6 (.inr (by omega))
        have hvi : g.vals[X]? = some g.vals[X] := List.getElem?_eq_getElem hXl
        have hvr := HGO.out.vals _ (List.getElem_mem hXl)
        generalize g.vals[X] = vx at hvi hvr
        obtain ⟨vx, rfl⟩ := Int.eq_ofNat_of_zero_le hvr.1
        have hva := valAt_of hvi
        rw [Int.toNat_natCast] at hva
        obtain ⟨b1, o1, rfl, hb1, d1⟩ := HC1.out.int hvi
        have d1 := kcell HBW.out d1
        have hb1w := Nat.lt_of_lt_of_le hb1 HBW.out.size
        have hb6w := Nat.lt_of_lt_of_le hb6 hsz
        have hii : (i : Int) < (N : Int) := by omega
        have hxx : (X : Int) < (g.vals.length : Int) := by omega
        have HOK := Lib.hid (show okV g a D i = (decide (0 ≤ D.getD i 0) && accC a vx S) by rw [okV, ← hX, ← hS, hva])
        have HY := Lib.hid (fun h : okV g a D i = true => (ansF_yes h).trans (by rw [← hX] : ansF g a D i ++ [((i / a.accept.length : Nat) : Int)] = ansF g a D i ++ [(X : Int)]))
        have HNo := Lib.hid (fun h : okV g a D i = false => ansF_no h)
        have HACC := Lib.hid (show ∀ W, Below w.heap.size w W → Calls Try.prog 95 #[.agg #[.int .i64 a.start, .slice A3 a.accept.length c3, .slice A4 n4 c4], .int .i64 (bit S : Int), .int .i64 (vx : Int)] W fun e w' => e = .returned (.bool (accC a vx S)) ∧ Below W.heap.size W w' from fun W hW => by
          have h := acceptsAt_any _ a (bit S) vx W (HAV.out.keep hW) HAO.out (bit_lt hSl) (by omega)
          rwa [acc_one _ _ (show S < 12 by omega)] at h)
        clear hX hS hgp hdi hvi hva
        generalize D.getD i 0 = d at *
        generalize ansF g a D i = L at *
        by_cases hd : 0 ≤ d
        · have hd0 : decide (d ≥ 0) = true := by simpa using hd
          rw [show decide (0 ≤ d) = true by simpa using hd, Bool.true_and] at HOK
          have s1 := shl_bit (s := S) (by omega)
          have s2 := shl_bit2 (s := S) (by omega)
          have s3 := shl_bit3 (s := S) (by omega)
          have q1 : IntKind.i64.wrap (X : Int) = (X : Int) := IntWalk.i64_in _ (by omega)
          have q2 : IntKind.i64.wrap (S : Int) = (S : Int) := IntWalk.i64_in _ (by omega)
          go_wp2_with fail
          refine wp_region_ext_lit (by kernel_rfl) (by kernel_rfl) ?_
          repeat (go_big_quiet_step ((go_at_call 95; exact Calls.ext_of (HACC.out _ (below_trans HBW.out (ext_below _ _))))))
          refine wpQuiet_nil ?_
          intro _ hw'
          obtain ⟨u2, hw''⟩ := hw'
          subst hw''
          have hbu := ext_below wr u2
          have hsu := hbu.size
          have HR2 := Lib.hid (ownsRow_below HROW.out hbu (Nat.le_refl _))
          have HON2 := Lib.hid (HON.out.trans (Only.of_below hbu gO (gO + 1)))
          clear s1 s2 s3 q1 q2
          generalize ext wr u2 = wx at *
          cases hc : accC a vx S with
          | true =>
            have HM := Lib.hid (HY.out (by rw [HOK.out, hc]))
            clear hc
            go_wp2_with (at_builtin; (refine wpList_append1 cI elInt rfl _ _ rfl gO _ L (X : Int) _ 1 _ (by rfl) HR2.out (by rfl) rfl rfl rfl (cI_one _) (by omega) (by omega) (by omega) ?_); intro v' w4 hrow' hb4 hat4 hgr4)
            go_roundw
            case rel =>
              refine ⟨i + 1, by omega, by go_num, by rw [HM.out]; exact hrow', (HON2.out.alloc _).grown hgr4 (fun b hb => by have := HOB.out b hb; omega), fun b hb => ?_⟩
              rcases hat4 with h1 | ⟨g1, h1, h2⟩
              · exact HOB.out b (by rw [← h1]; exact hb)
              · rw [h1] at hb
                injection hb with hb
                exact .inr (by omega)
            case measure => simp [intOf]; omega
          | false =>
            have HM := Lib.hid (HNo.out (by rw [HOK.out, hc]))
            clear hc
            go_wp2_with fail
            go_roundw
            case rel => exact ⟨i + 1, by omega, by go_num, by rw [HM.out]; exact HR2.out, HON2.out, HOB.out⟩
            case measure => simp [intOf]; omega
        · have hd0 : decide (d ≥ 0) = false := by simpa using hd
          have HM := Lib.hid (HNo.out (by rw [HOK.out, show decide (0 ≤ d) = false by simpa using hd]; rfl))
          go_wp2_with fail
          refine wp_region_ext_lit (by kernel_rfl) (by kernel_rfl) ?_
          repeat (go_big_quiet_step (fail))
          refine wpQuiet_nil ?_
          intro _ hw'
          obtain ⟨u2, hw''⟩ := hw'
          subst hw''
          have hbu := ext_below wr u2
          have HR2 := Lib.hid (ownsRow_below HROW.out hbu (Nat.le_refl _))
          have HON2 := Lib.hid (HON.out.trans (Only.of_below hbu gO (gO + 1)))
          generalize ext wr u2 = wx at *
          go_wp2_with fail
          go_roundw
          case rel => exact ⟨i + 1, by omega, by go_num, by rw [HM.out]; exact HR2.out, HON2.out, HOB.out⟩
          case measure => simp [intOf]; omega
      · obtain rfl : i = N := by omega
        have hown := Own.of_row (xs := ansF g a D i) HROW.out rfl rfl
        have has := ascending_any _ _ wr ((hown.sl cI_len).all (Nat.le_refl _)) (by omega)
        rw [HASC.out] at has
        have HAS := Lib.hid has
        clear has
        go_wp2_with fail
        refine HAS.out.mono ?_
        rintro e w2 ⟨v2, rfl, ho2, hb3⟩
        have HO := Lib.hid (ho2.mono HBW.out.size (Nat.le_refl _))
        obtain ⟨A9, n9, c9, rfl⟩ := ho2.shape
        clear ho2 hown
        go_wp2_with fail
        go_ret
        exact ⟨_, rfl, HO.out, below_trans HBW.out hb3⟩

set_option maxHeartbeats 2000000 in
theorem implHasAnswer (vg va : Value) (g : Gr) (a : Au) (x y : Int) (w : World) (hgv : GrV 0 w.heap.size w vg g) (hav : AuV 0 w.heap.size w va a) :
    Calls Try.prog 52 #[vg, va, .int .i64 x, .int .i64 y] w fun e w' => e = .returned (.bool (hasAns g a x y)) ∧ Below w.heap.size w w' := by
  have hgv0 := hgv
  have hav0 := hav
  obtain ⟨A1, n1, c1, A2, n2, c2, rfl⟩ := hgv.shape
  obtain ⟨A3, n3, c3, A4, n4, c4, rfl⟩ := hav.shape
  have hb0 : Below w.heap.size w ((w.alloc (.cells #[.slice A1 n1 c1, .slice A2 n2 c2] 48)).alloc (.cells #[.int .i64 a.start, .slice A3 n3 c3, .slice A4 n4 c4] 50)) := ((Below.refl _ _).alloc (Nat.le_refl _) _).alloc (by simp) _
  have haf := implAnswersFrom _ _ g a x _ (hgv0.keep hb0) (hav0.keep hb0)
  have HAF := Lib.hid haf
  have HLN := Lib.hid (ansL_len g a x)
  have HH := Lib.hid (show hasAns g a x y = (ansL g a x).contains y from rfl)
  clear hgv hav hgv0 hav0 haf
  obtain ⟨R, hR⟩ : ∃ R, R = hasAns g a x y := ⟨_, rfl⟩
  rw [← hR] at HH ⊢
  clear hR
  go_enter Try.func52, Try.ntmps52
  go_wp2_with fail
  refine HAF.out.mono ?_
  rintro e w1 ⟨v1, rfl, ho1, hb1⟩
  generalize ansL g a x = L at *
  have hr1 := ho1.1
  by_cases h0 : L.length = 0
  · obtain rfl : L = [] := List.eq_nil_of_length_eq_zero h0
    obtain ⟨A9, c9, rfl, -, -, -⟩ := ho1.form cI_len
    clear h0 hr1 ho1 HAF
    simp only [List.length_nil]
    go_wp2_with fail
    refine (Try.slices_Contains_int_empty A9 c9 y w1).mono ?_
    rintro e w2 ⟨rfl, rfl⟩
    go_wp2_with fail
    go_ret
    exact ⟨by rw [HH.out]; rfl, below_trans hb0 hb1⟩
  · obtain ⟨gb, cb, rfl, -, -, -, -⟩ := own_some hr1 h0
    have hl30 := HLN.out
    have hct := Try.slices_Contains_int gb 0 L.length cb L y w1 (Nat.le_refl _) (by omega) (fun j hj => by
      rw [Nat.zero_add, World.ownsRow.cellAt hr1 j (by omega)]
      exact flatI_at (getD_of hj))
    rw [List.take_length, ← HH.out] at hct
    have HCT := Lib.hid hct
    clear hr1 ho1 HAF hct
    go_wp2_with fail
    refine HCT.out.mono ?_
    rintro e w2 ⟨rfl, rfl⟩
    go_wp2_with fail
    go_ret
    exact ⟨rfl, below_trans hb0 hb1⟩
end Go.Proofs.Ytmlfkledhnlkeaa

/- The reference's l4Set, l15From, AnswersFrom, l11Find, HasAnswer. -/
namespace Go.Proofs.Ytmlfkledhnlkeaa
set_option linter.unusedVariables false
set_option linter.unusedSimpArgs false
open Go.ChangeShapes Go.WideShapes Go.ChangeAt Go.RowKit
attribute [local go_sem] ext_cell ext_frozen ext_lt ext_lt1 ext_lt2 ext_lt3 ltn2 ltn3 ltn13 lts1 lts2 lts3

set_option maxHeartbeats 2000000 in
theorem l4Set_any (m : Nat) (w : World) (hm : m < 2 ^ 60) :
    Calls Try.prog 162 #[.int .i64 (m : Int)] w fun e w' => ∃ v', e = .returned v' ∧ Own w.heap.size w'.heap.size w' 3 cI 1 v' (memI 30 m) ∧ Below w.heap.size w w' := by
  obtain ⟨R, hR⟩ : ∃ R, R = memI 30 m := ⟨_, rfl⟩
  rw [← hR]
  have HR := Lib.hid hR
  clear hR
  go_enter Try.func162, Try.ntmps162
  go_wp2_with fail
  go_loopw [3, 4] (fun oo ii wr => ∃ i : Nat, i ≤ 30 ∧ ii = .int .i64 (i : Int) ∧ wr.ownsRow w.heap.size 3 1 oo (memI i m).length ((memI i m).flatMap cI) ∧ Below w.heap.size w wr) (fun _ ii _ => 30 - (intOf ii).toNat)
  case atStart => exact ⟨0, Nat.zero_le _, rfl, World.ownsRow_lit w #[] 0 (Nat.le_refl _) (by decide) rfl, (Below.refl _ _).alloc (Nat.le_refl _) _⟩
  case round =>
    obtain ⟨i, hi, rfl, hrow, hbel⟩ := hrel
    have HROW := Lib.hid hrow
    have hml : (memI i m).length ≤ 30 := by unfold memI; rw [List.length_map]; have := mem_len i m; omega
    have hsz := hbel.size
    clear hrow
    by_cases hlt : i < 30
    · have hii : (i : Int) < 30 := by omega
      cases hb : m.testBit i with
      | false =>
        have b1f := bit_off (by omega) (by omega) hb
        have HM := Lib.hid (show memI (i + 1) m = memI i m by unfold memI; rw [mem_no hb])
        clear hb
        go_wp2_with fail
        go_roundw
        case rel => exact ⟨i + 1, by omega, by go_num, by rw [HM.out]; exact HROW.out, hbel⟩
        case measure => simp [intOf]; omega
      | true =>
        have b1t := bit_on (by omega) (by omega) hb
        have HM := Lib.hid (show memI (i + 1) m = memI i m ++ [(i : Int)] by unfold memI; rw [mem_yes hb, List.map_append]; rfl)
        clear hb
        generalize memI i m = L at *
        go_wp2_with (at_builtin; (refine wpList_append1 cI elInt rfl _ _ rfl w.heap.size _ (L) ((i : Int)) _ 1 _ (by rfl) (HROW.out) (by rfl) rfl rfl rfl (cI_one _) (by omega) (by omega) (by omega) ?_); intro v' w4 hrow' hb4 _ _)
        go_roundw
        case rel => exact ⟨i + 1, by omega, by go_num, by rw [HM.out]; exact hrow', hbel.trans hb4⟩
        case measure => simp [intOf]; omega
    · obtain rfl : i = 30 := by omega
      have hown := Own.of_row (xs := memI 30 m) HROW.out rfl rfl
      rw [← HR.out] at hown
      have HO := Lib.hid hown
      obtain ⟨A6, c6, rfl, -, -, -⟩ := (Own.of_row (xs := memI 30 m) HROW.out rfl rfl).form cI_len
      clear hown
      go_wp2_with fail
      go_ret
      exact ⟨_, rfl, HO.out, hbel⟩

set_option maxHeartbeats 4000000 in
set_option maxRecDepth 100000 in
theorem l15From_any (vg va : Value) (g : Gr) (a : Au) (x : Nat) (w : World) (hgv : GrV 0 w.heap.size w vg g) (hav : AuV 0 w.heap.size w va a) (hgo : grOk g = true) (ha : auOk a = true) (hx : x < g.vals.length) :
    Calls Try.prog 144 #[vg, va, .int .i64 (x : Int)] w fun e w' => ∃ v', e = .returned v' ∧ Own w.heap.size w'.heap.size w' 3 cI 1 v' (ansL g a (x : Int)) ∧ Below w.heap.size w w' := by
  have hgv0 := hgv
  have hav0 := hav
  obtain ⟨A1, n1, c1, A2, n2, c2, rfl⟩ := hgv.shape
  obtain ⟨A3, c3, A4, c4, rfl, hl3, hm3, hl4, hm4, -⟩ := hav.form ha
  have hg := grOk_iff.1 hgo
  have hn5 := hg.n5
  have hn12 := (auOk_iff.1 ha).1.2
  have hn1 := (auOk_iff.1 ha).1.1
  have hok : (wi (x : Int) 0 ((g.vals.length : Int) - 1) && (grOk g && auOk a)) = true := by simp only [Bool.and_eq_true, wi_iff]; exact ⟨by omega, hgo, ha⟩
  obtain ⟨N, hN⟩ : ∃ N, N = g.vals.length * a.accept.length := ⟨_, rfl⟩
  have hN60 : N ≤ 60 := by rw [hN]; exact Nat.mul_le_mul hn5 hn12
  have hdl : (distFrom g a (x : Int)).length = N := by rw [distFrom_len hok, hN]
  obtain ⟨R, hR⟩ : ∃ R, R = ansL g a (x : Int) := ⟨_, rfl⟩
  have hR2 : R = memI 30 (ansM g a (distFrom g a (x : Int)) N) := by rw [hR, ansL, if_pos hok, hN]
  rw [← hR]
  have HR := Lib.hid hR2
  have HN := Lib.hid hN
  have HGO := Lib.hid hg
  have HAO := Lib.hid ha
  have HAV := Lib.hid hav0
  have HGV := Lib.hid hgv0
  have HGB := Lib.hid hgo
  have hb0 : Below w.heap.size w ((w.alloc (.cells #[.slice A1 n1 c1, .slice A2 n2 c2] 48)).alloc (.cells #[.int .i64 a.start, .slice A3 a.accept.length c3, .slice A4 a.accept.length c4] 50)) := ((Below.refl _ _).alloc (Nat.le_refl _) _).alloc (by simp) _
  clear hgv hav ha hg hgo hav0 hgv0 hR hR2 hok hN
  go_enter Try.func144, Try.ntmps144
  go_wp2_with fail
  obtain ⟨W0, hW0⟩ : ∃ W0, W0 = ((w.alloc (.cells #[.slice A1 n1 c1, .slice A2 n2 c2] 48)).alloc (.cells #[.int .i64 a.start, .slice A3 a.accept.length c3, .slice A4 a.accept.length c4] 50)) := ⟨_, rfl⟩
  rw [← hW0] at hb0 ⊢
  have x0 : W0.cell? ⟨w.heap.size, 0, none⟩ = some (.slice A1 n1 c1) := by rw [hW0]; simp
  have x1 : W0.cell? ⟨w.heap.size, 1, none⟩ = some (.slice A2 n2 c2) := by rw [hW0]; simp
  have y0 : W0.cell? ⟨w.heap.size + 1, 0, none⟩ = some (.int .i64 a.start) := by rw [hW0]; simp
  have y1 : W0.cell? ⟨w.heap.size + 1, 1, none⟩ = some (.slice A3 a.accept.length c3) := by rw [hW0]; simp
  have y2 : W0.cell? ⟨w.heap.size + 1, 2, none⟩ = some (.slice A4 a.accept.length c4) := by rw [hW0]; simp
  have hs0 : w.heap.size + 1 + 1 = W0.heap.size := by rw [hW0]; simp
  try rw [hs0]
  have l0 : w.heap.size + 1 < W0.heap.size := by omega
  have l00 : w.heap.size < W0.heap.size := by omega
  clear hW0 hs0
  refine (l14Ranks_any _ _ g a x W0 (HGV.out.keep hb0) (HAV.out.keep hb0) HGB.out HAO.out hx).mono ?_
  rintro e w1 ⟨v1, rfl, ho1, hb1⟩
  have hb2 := below_trans hb0 hb1
  have x0 := kcell hb1 x0
  have x1 := kcell hb1 x1
  have y0 := kcell hb1 y0
  have y1 := kcell hb1 y1
  have y2 := kcell hb1 y2
  have hs1 := hb1.size
  have l0 := Nat.lt_of_lt_of_le l0 hs1
  have l00 := Nat.lt_of_lt_of_le l00 hs1
  generalize distFrom g a (x : Int) = D at *
  obtain ⟨A6, c6, rfl, hl6, hm6, hC6⟩ := ho1.form cI_len
  have HC6 := Lib.hid hC6
  rw [hdl] at hl6 ⊢
  have HDL := Lib.hid hdl
  clear hC6 ho1 hb1 hb0 hdl
  go_wp2_with fail
  go_loopw [9, 10] (fun mm ii wr => ∃ (i : Nat) (u : World), i ≤ N ∧ ii = .int .i64 (i : Int) ∧ mm = .int .i64 (ansM g a D i : Nat) ∧ wr = ext w1 u) (fun _ ii _ => N - (intOf ii).toNat)
  case atStart => exact ⟨0, w1, Nat.zero_le _, rfl, rfl, ext_self _⟩
  case round =>
    obtain ⟨i, u, hi, rfl, rfl, rfl⟩ := hrel
    have hbE := below_trans hb2 (ext_below w1 u)
    by_cases hlt : i < N
    · have hgp : g.vals.length * a.accept.length = N := HN.out.symm
      obtain ⟨X, hX⟩ : ∃ X, X = i / a.accept.length := ⟨_, rfl⟩
      obtain ⟨S, hS⟩ : ∃ S, S = i % a.accept.length := ⟨_, rfl⟩
      have hXl : X < g.vals.length := by rw [hX]; exact Nat.div_lt_of_lt_mul (by rw [Nat.mul_comm, hgp]; exact hlt)
      have hSl : S < a.accept.length := by rw [hS]; exact Nat.mod_lt _ hn1
      have hml : ansM g a D i < 2 ^ g.vals.length := ansM_lt (by rw [hgp]; omega)
      have hml32 : ansM g a D i < 32 := Nat.lt_of_lt_of_le hml (Nat.pow_le_pow_right (by omega) hn5)
      have t1 : (i : Int).tdiv (a.accept.length : Int) = (X : Int) := by rw [hX]; rfl
      have t2 : (i : Int).tmod (a.accept.length : Int) = (S : Int) := by rw [hS]; rfl
      have hn0 : ((a.accept.length : Int) == 0) = false := by simp only [beq_eq_false_iff_ne, ne_eq]; omega
      have hae : a.accept ≠ [] := by intro h; rw [h] at hn1; simp at hn1
      have hdi := getD_of (D := D) (k := i) (by have := HDL.out; omega)
      obtain ⟨b6, o6, rfl, hb6, d6⟩ := HC6.out.int hdi
      have hii : (i : Int) < (N : Int) := by omega
      have HOK := Lib.hid (show okV g a D i = (decide (0 ≤ D.getD i 0) && accC a (valAt g X) S) by rw [hX, hS]; rfl)
      have HY := Lib.hid (fun h : okV g a D i = true => (ansM_yes h).trans (by rw [← hX] : ins (ansM g a D i) (i / a.accept.length) = ins (ansM g a D i) X))
      have HNo := Lib.hid (fun h : okV g a D i = false => ansM_no h)
      clear hX hS hgp hdi
      generalize D.getD i 0 = d at *
      have HACC := Lib.hid (fun (W : World) (hW : Below w.heap.size w W) => l14Accepts_any _ _ g a X S W (HGV.out.keep hW) (HAV.out.keep hW) HGO.out HAO.out hXl hSl)
      by_cases hd : 0 ≤ d
      · have hd0 : decide (d ≥ 0) = true := by simpa using hd
        rw [show decide (0 ≤ d) = true by simpa using hd, Bool.true_and] at HOK
        go_wp2_with fail
        refine wp_region_ext_lit (by kernel_rfl) (by kernel_rfl) ?_
        repeat (go_big_quiet_step ((go_at_call 127; exact Calls.ext_of (HACC.out _ (below_trans hbE (ext_below _ _))))))
        refine wpQuiet_nil ?_
        intro _ hw'
        obtain ⟨u2, hw''⟩ := hw'
        subst hw''
        obtain ⟨u4, hu4⟩ := ext_of (below_trans (ext_below w1 u) (ext_below (ext w1 u) u2))
        rw [hu4]
        cases hc : accC a (valAt g X) S with
        | true =>
          have HM := Lib.hid (HY.out (by rw [HOK.out, hc]))
          have e1 := shl_bit (s := X) (by omega)
          generalize ansM g a D i = M at *
          have e2 := or_ins (m := M) (s := X) (by omega) (by omega)
          clear hc
          go_wp2_with fail
          go_roundw
          case rel => exact ⟨i + 1, u4, by omega, by go_num, by rw [HM.out], rfl⟩
          case measure => simp [intOf]; omega
        | false =>
          have HM := Lib.hid (HNo.out (by rw [HOK.out, hc]))
          clear hc
          go_wp2_with fail
          go_roundw
          case rel => exact ⟨i + 1, u4, by omega, by go_num, by rw [HM.out], rfl⟩
          case measure => simp [intOf]; omega
      · have hd0 : decide (d ≥ 0) = false := by simpa using hd
        have HM := Lib.hid (HNo.out (by rw [HOK.out, show decide (0 ≤ d) = false by simpa using hd]; rfl))
        go_wp2_with fail
        refine wp_region_ext_lit (by kernel_rfl) (by kernel_rfl) ?_
        repeat (go_big_quiet_step (fail))
        refine wpQuiet_nil ?_
        intro _ hw'
        obtain ⟨u2, hw''⟩ := hw'
        subst hw''
        obtain ⟨u4, hu4⟩ := ext_of (below_trans (ext_below w1 u) (ext_below (ext w1 u) u2))
        rw [hu4]
        go_wp2_with fail
        go_roundw
        case rel => exact ⟨i + 1, u4, by omega, by go_num, by rw [HM.out], rfl⟩
        case measure => simp [intOf]; omega
    · obtain rfl : i = N := by omega
      have hml : ansM g a D i < 2 ^ g.vals.length := ansM_lt (by rw [← HN.out]; exact Nat.le_refl _)
      have hml32 : ansM g a D i < 2 ^ 60 := Nat.lt_of_lt_of_le hml (Nat.pow_le_pow_right (by omega) (by omega))
      have hset := l4Set_any (ansM g a D i) (ext w1 u) hml32
      rw [← HR.out] at hset
      have HS := Lib.hid hset
      clear hset hml hml32
      go_wp2_with fail
      refine HS.out.mono ?_
      rintro e w9 ⟨v9, rfl, ho9, hb9⟩
      obtain ⟨A9, c9, rfl, -, -, -⟩ := ho9.form cI_len
      have HO := Lib.hid (ho9.mono hbE.size (Nat.le_refl _))
      clear ho9
      go_wp2_with fail
      go_ret
      exact ⟨_, rfl, HO.out, below_trans hbE hb9⟩

theorem lit_nil {w : World} {lo : Nat} {e : TypeId} {α : Type} {E : α → List Value} {k : Nat} (hl : lo ≤ w.heap.size) : Own lo (w.alloc (.cells #[] e)).heap.size (w.alloc (.cells #[] e)) e E k (.slice (some ⟨w.heap.size, 0, none⟩) 0 0) [] :=
  Own.of_row (n := 0) (cs := []) ⟨by simp, .inr ⟨w.heap.size, 0, #[], rfl, hl, heap_alloc_new w _, Nat.le_refl _, by unfold maxLen; omega, by simp, by simp⟩⟩ rfl rfl
theorem goodB1 (g : Gr) (a : Au) (x : Int) : goodB g a x 0 = (wi x 0 ((g.vals.length : Int) - 1) && (grOk g && auOk a)) := by
  unfold goodB
  cases h : auOk a with
  | false => simp
  | true =>
    have h1 := (auOk_iff.1 h).1.1
    have h2 : wi 0 0 ((a.accept.length : Int) - 1) = true := wi_iff.2 (by omega)
    rw [h2]
    cases grOk g <;> simp
set_option maxHeartbeats 2000000 in
theorem specAnswersFrom (vg va : Value) (g : Gr) (a : Au) (x : Int) (w : World) (hgv : GrV 0 w.heap.size w vg g) (hav : AuV 0 w.heap.size w va a) :
    Calls Try.prog 102 #[vg, va, .int .i64 x] w fun e w' => ∃ v', e = .returned v' ∧ Own w.heap.size w'.heap.size w' 3 cI 1 v' (ansL g a x) ∧ Below w.heap.size w w' := by
  have hgv0 := hgv
  have hav0 := hav
  obtain ⟨A1, n1, c1, A2, n2, c2, rfl⟩ := hgv.shape
  obtain ⟨A3, n3, c3, A4, n4, c4, rfl⟩ := hav.shape
  have hb0 : Below w.heap.size w ((w.alloc (.cells #[.slice A1 n1 c1, .slice A2 n2 c2] 48)).alloc (.cells #[.int .i64 a.start, .slice A3 n3 c3, .slice A4 n4 c4] 50)) := ((Below.refl _ _).alloc (Nat.le_refl _) _).alloc (by simp) _
  have HGV := Lib.hid hgv0
  have HAV := Lib.hid hav0
  clear hgv hav hgv0 hav0
  go_enter Try.func102, Try.ntmps102
  go_wp2_with fail
  obtain ⟨W0, hW0⟩ : ∃ W0, W0 = ((w.alloc (.cells #[.slice A1 n1 c1, .slice A2 n2 c2] 48)).alloc (.cells #[.int .i64 a.start, .slice A3 n3 c3, .slice A4 n4 c4] 50)) := ⟨_, rfl⟩
  rw [← hW0] at hb0 ⊢
  have x0 : W0.cell? ⟨w.heap.size, 0, none⟩ = some (.slice A1 n1 c1) := by rw [hW0]; simp
  have x1 : W0.cell? ⟨w.heap.size, 1, none⟩ = some (.slice A2 n2 c2) := by rw [hW0]; simp
  have y0 : W0.cell? ⟨w.heap.size + 1, 0, none⟩ = some (.int .i64 a.start) := by rw [hW0]; simp
  have y1 : W0.cell? ⟨w.heap.size + 1, 1, none⟩ = some (.slice A3 n3 c3) := by rw [hW0]; simp
  have y2 : W0.cell? ⟨w.heap.size + 1, 2, none⟩ = some (.slice A4 n4 c4) := by rw [hW0]; simp
  have hs0 : w.heap.size + 1 + 1 = W0.heap.size := by rw [hW0]; simp
  try rw [hs0]
  have l0 : w.heap.size + 1 < W0.heap.size := by omega
  have l00 : w.heap.size < W0.heap.size := by omega
  clear hW0 hs0
  have hgx := l14Good_any _ _ g a x 0 W0 (HGV.out.keep hb0) (HAV.out.keep hb0)
  rw [goodB1] at hgx
  have HGX := Lib.hid hgx
  clear hgx
  obtain ⟨R, hR⟩ : ∃ R, R = ansL g a x := ⟨_, rfl⟩
  have HR := Lib.hid hR
  clear hR
  cases hk : (wi x 0 ((g.vals.length : Int) - 1) && (grOk g && auOk a)) with
  | false =>
    rw [hk] at HGX
    have hr0 : ansL g a x = [] := by rw [ansL, hk]; rfl
    have HR0 := Lib.hid hr0
    clear hk hr0
    refine HGX.out.mono ?_
    rintro e w1 ⟨rfl, hb1⟩
    have hb2 := below_trans hb0 hb1
    go_wp2_with fail
    go_ret
    exact ⟨_, rfl, by rw [HR0.out]; exact lit_nil hb2.size, hb2.alloc hb2.size _⟩
  | true =>
    rw [hk] at HGX
    simp only [Bool.and_eq_true, wi_iff] at hk
    obtain ⟨⟨hx0, hx1⟩, hgo, ha⟩ := hk
    obtain ⟨x, rfl⟩ := Int.eq_ofNat_of_zero_le hx0
    have hxl : x < g.vals.length := by omega
    have HLF := Lib.hid (fun (W : World) (hW : Below w.heap.size w W) => l15From_any _ _ g a x W (HGV.out.keep hW) (HAV.out.keep hW) hgo ha hxl)
    clear hx0 hx1 hgo ha
    refine HGX.out.mono ?_
    rintro e w1 ⟨rfl, hb1⟩
    have hb2 := below_trans hb0 hb1
    have x0 := kcell hb1 x0
    have x1 := kcell hb1 x1
    have y0 := kcell hb1 y0
    have y1 := kcell hb1 y1
    have y2 := kcell hb1 y2
    go_wp2_with fail
    refine (HLF.out w1 hb2).mono ?_
    rintro e w2 ⟨v2, rfl, ho2, hb3⟩
    obtain ⟨A9, c9, rfl, -, -, -⟩ := ho2.form cI_len
    have HO := Lib.hid (ho2.mono hb2.size (Nat.le_refl _))
    clear ho2
    go_wp2_with fail
    go_ret
    exact ⟨_, rfl, HO.out, below_trans hb2 hb3⟩

set_option maxHeartbeats 1000000 in
theorem l11Find_any (v : Value) (xs : List Int) (y : Int) (w : World) (hv : SlE w cI 1 v xs) :
    Calls Try.prog 101 #[v, .int .i64 y] w fun e w' => e = .returned (.int .i64 (Lib.idxOf xs y)) ∧ w' = w := by
  obtain ⟨A, c, rfl, hl, hm, hC⟩ := SlE.form hv
  have HC := Lib.hid hC
  obtain ⟨R, hR⟩ : ∃ R, R = Lib.idxOf xs y := ⟨_, rfl⟩
  rw [← hR]
  have HR := Lib.hid hR
  clear hv hC hR
  go_enter Try.func101, Try.ntmps101
  go_wp2_with fail
  go_loop [5] (fun ii => ∃ i : Nat, i ≤ xs.length ∧ ii = .int .i64 (i : Int) ∧ ∀ j, j < i → xs.getD j 0 ≠ y) (fun ii => xs.length - (intOf ii).toNat)
  case atStart => exact ⟨0, Nat.zero_le _, rfl, by intro j hj; omega⟩
  case round =>
    obtain ⟨i, hi, rfl, hno⟩ := hrel
    have HNO := Lib.hid hno
    clear hno
    by_cases hlt : i < xs.length
    · have hxi := getD_of (D := xs) hlt
      obtain ⟨b, o, rfl, hb, d⟩ := HC.out.int hxi
      have hii : (i : Int) < (xs.length : Int) := by omega
      obtain ⟨x, hx⟩ : ∃ x, x = xs.getD i 0 := ⟨_, rfl⟩
      rw [← hx] at d
      have HX := Lib.hid hx
      clear hxi hx
      by_cases hxy : x = y
      · have hfin : R = (i : Int) := by
          have h := Lib.idxOf_hit xs xs.length i y hlt (Nat.le_refl _) (by rw [← HX.out]; exact hxy) HNO.out
          rw [List.take_length] at h
          rw [HR.out, h]
        have HF := Lib.hid hfin
        have k1 : (x == y) = true := by simpa using hxy
        clear hfin hxy
        go_wp2_with fail
        go_ret
        exact ⟨by rw [HF.out]; rfl, rfl⟩
      · have k1 : (x == y) = false := by simpa using hxy
        have HXY := Lib.hid hxy
        clear hxy
        go_wp2_with fail
        go_round
        case rel => exact ⟨i + 1, by omega, by go_num, fun j hj => by rcases Nat.lt_or_ge j i with h | h; (exact HNO.out j h); (obtain rfl : j = i := (by omega); rw [← HX.out]; exact HXY.out)⟩
        case measure => simp [intOf]; omega
    · obtain rfl : i = xs.length := by omega
      have hfin : R = -1 := by
        have h := Lib.idxOf_miss xs xs.length y HNO.out
        rw [List.take_length] at h
        rw [HR.out, h]
      have HF := Lib.hid hfin
      clear hfin
      go_wp2_with fail
      go_ret
      exact ⟨by rw [HF.out]; rfl, rfl⟩

set_option maxHeartbeats 2000000 in
theorem specHasAnswer (vg va : Value) (g : Gr) (a : Au) (x y : Int) (w : World) (hgv : GrV 0 w.heap.size w vg g) (hav : AuV 0 w.heap.size w va a) :
    Calls Try.prog 51 #[vg, va, .int .i64 x, .int .i64 y] w fun e w' => e = .returned (.bool (hasAns g a x y)) ∧ Below w.heap.size w w' := by
  have hgv0 := hgv
  have hav0 := hav
  obtain ⟨A1, n1, c1, A2, n2, c2, rfl⟩ := hgv.shape
  obtain ⟨A3, n3, c3, A4, n4, c4, rfl⟩ := hav.shape
  have hb0 : Below w.heap.size w ((w.alloc (.cells #[.slice A1 n1 c1, .slice A2 n2 c2] 48)).alloc (.cells #[.int .i64 a.start, .slice A3 n3 c3, .slice A4 n4 c4] 50)) := ((Below.refl _ _).alloc (Nat.le_refl _) _).alloc (by simp) _
  have haf := specAnswersFrom _ _ g a x _ (hgv0.keep hb0) (hav0.keep hb0)
  have HAF := Lib.hid haf
  clear hgv hav hgv0 hav0 haf
  have hh : hasAns g a x y = decide (0 ≤ Lib.idxOf (ansL g a x) y) := by
    rw [hasAns, Bool.eq_iff_iff, decide_eq_true_eq, Lib.idxOf_nonneg_iff]
  have HH := Lib.hid hh
  clear hh
  obtain ⟨R, hR⟩ : ∃ R, R = hasAns g a x y := ⟨_, rfl⟩
  rw [← hR] at HH ⊢
  clear hR
  go_enter Try.func51, Try.ntmps51
  go_wp2_with fail
  refine HAF.out.mono ?_
  rintro e w1 ⟨v1, rfl, ho1, hb1⟩
  have hsl := (ho1.sl cI_len).all (Nat.le_refl _)
  have hfi := l11Find_any v1 _ y w1 hsl
  have HFI := Lib.hid hfi
  obtain ⟨A9, c9, rfl, -, -, -⟩ := ho1.form cI_len
  clear hsl hfi ho1 HAF
  generalize Lib.idxOf (ansL g a x) y = r at *
  generalize ansL g a x = L at *
  go_wp2_with fail
  refine HFI.out.mono ?_
  rintro e w2 ⟨rfl, rfl⟩
  go_wp2_with fail
  go_ret
  exact ⟨by rw [HH.out]; rfl, below_trans hb0 hb1⟩
end Go.Proofs.Ytmlfkledhnlkeaa

