/- The program's ShortestLength. -/
import Derived.Test.YtmlfkledhnlkeaaDistI
namespace Go.Proofs.Ytmlfkledhnlkeaa
set_option linter.unusedVariables false
set_option linter.unusedSimpArgs false
open Go.ChangeShapes Go.WideShapes Go.ChangeAt Go.RowKit
attribute [local go_sem] ext_cell ext_frozen ext_lt ext_lt1 ext_lt2 ext_lt3 ltn2 ltn3 ltn13 lts1 lts2 lts3

set_option maxHeartbeats 4000000 in
set_option maxRecDepth 100000 in
theorem implShortestLength (vg va : Value) (g : Gr) (a : Au) (x y : Int) (w : World) (hgv : GrV 0 w.heap.size w vg g) (hav : AuV 0 w.heap.size w va a) :
    Calls Try.prog 37 #[vg, va, .int .i64 x, .int .i64 y] w fun e w' => e = .returned (.int .i64 (shortLen g a x y)) ∧ Below w.heap.size w w' := by
  have hgv0 := hgv
  have hav0 := hav
  obtain ⟨A1, n1, c1, A2, n2, c2, rfl⟩ := hgv.shape
  obtain ⟨ac, nx, rfl, hac, hnx⟩ := hav
  obtain ⟨A3, c3, rfl, -, -, -⟩ := SlE.form hac
  obtain ⟨A4, n4, c4, rfl⟩ := hnx.shape
  have hb0 : Below w.heap.size w ((w.alloc (.cells #[.slice A1 n1 c1, .slice A2 n2 c2] 48)).alloc (.cells #[.int .i64 a.start, .slice A3 a.accept.length c3, .slice A4 n4 c4] 50)) := ((Below.refl _ _).alloc (Nat.le_refl _) _).alloc (by simp) _
  have hb1 := hb0.alloc hb0.size (.cells #[.int .i64 x, .int .i64 y] 3)
  have hst : SlE (((w.alloc (.cells #[.slice A1 n1 c1, .slice A2 n2 c2] 48)).alloc (.cells #[.int .i64 a.start, .slice A3 a.accept.length c3, .slice A4 n4 c4] 50)).alloc (.cells #[.int .i64 x, .int .i64 y] 3)) cI 1 (.slice (some ⟨w.heap.size + 1 + 1, 0, none⟩) 2 2) [x, y] := by
    have h := lit_sl ((w.alloc (.cells #[.slice A1 n1 c1, .slice A2 n2 c2] 48)).alloc (.cells #[.int .i64 a.start, .slice A3 a.accept.length c3, .slice A4 n4 c4] 50)) 3 [x, y] (by unfold maxLen; simp)
    simpa using h
  have hbo := bothOk_any _ _ _ g a [x, y] _ (hgv0.keep hb1) (hav0.keep hb1) hst
  have HBO := Lib.hid hbo
  have HGV := Lib.hid hgv0
  have HAV := Lib.hid hav0
  clear hgv hac hnx hgv0 hav0 hbo hst
  cases hk : ([x, y].all (fun s => wi s 0 ((g.vals.length : Int) - 1)) && (grOk g && auOk a)) with
  | false =>
    rw [hk] at HBO
    have hfin : shortLen g a x y = -1 := by unfold shortLen; rw [if_neg]; simpa [Bool.and_assoc] using hk
    have HF := Lib.hid hfin
    clear hk hfin
    go_enter Try.func37, Try.ntmps37
    go_wp2_with fail
    refine HBO.out.mono ?_
    rintro e w1 ⟨rfl, hb2⟩
    go_wp2_with fail
    go_ret
    exact ⟨by rw [HF.out]; rfl, below_trans hb1 hb2⟩
  | true =>
    rw [hk] at HBO
    simp only [List.all_cons, List.all_nil, Bool.and_true, Bool.and_eq_true, wi_iff] at hk
    obtain ⟨⟨⟨hx0, hx1⟩, hy0, hy1⟩, hgo, hao⟩ := hk
    have hdl := distTo_len (g := g) (a := a) (y := y) (by simp [wi_iff, hy0, hy1, hgo, hao])
    obtain ⟨x, rfl⟩ := Int.eq_ofNat_of_zero_le hx0
    have hst0 := (auOk_iff.1 hao).2.1
    have hm12 := (auOk_iff.1 hao).1.2
    have hn5 := (grOk_iff.1 hgo).n5
    obtain ⟨xn, hxn⟩ : ∃ xn, xn = x * a.accept.length := ⟨_, rfl⟩
    have hxn2 : xn + a.accept.length ≤ g.vals.length * a.accept.length := by rw [hxn]; have := Nat.mul_le_mul_right a.accept.length (show x + 1 ≤ g.vals.length by omega); rw [Nat.succ_mul] at this; exact this
    have hN60 : g.vals.length * a.accept.length ≤ 60 := by have := Nat.mul_le_mul hn5 hm12; omega
    rw [← hdl] at hxn2 hN60
    obtain ⟨ix, hix⟩ : ∃ ix : Nat, (ix : Int) = (xn : Int) + a.start := ⟨(xn + a.start.toNat), by omega⟩
    have hixl : ix < (distTo g a y).length := by omega
    have hfin : shortLen g a x y = (distTo g a y).getD ix 0 := by
      unfold shortLen
      rw [if_pos (by simp [wi_iff, hx0, hx1, hy0, hy1, hgo, hao]), Int.toNat_natCast, ← hxn]
      congr 1
      omega
    have hget := getD_of hixl
    have q1 : IntKind.i64.wrap ((x : Int) * (a.accept.length : Int)) = (xn : Int) := by rw [IntWalk.i64_in _ (by rw [← Int.natCast_mul, ← hxn]; omega), hxn, Int.natCast_mul]
    have q1' : (x : Int) * (a.accept.length : Int) = (xn : Int) := by rw [hxn, Int.natCast_mul]
    have q2 : IntKind.i64.wrap ((xn : Int) + a.start) = (ix : Int) := by rw [← hix]; exact IntWalk.i64_in _ (by omega)
    have q2' : (xn : Int) + a.start = (ix : Int) := hix.symm
    have q5 : IntKind.i64.wrap (xn : Int) = (xn : Int) := IntWalk.i64_in _ (by omega)
    have q6 : IntKind.i64.wrap (ix : Int) = (ix : Int) := IntWalk.i64_in _ (by omega)
    have hixi : (ix : Int) < ((distTo g a y).length : Int) := by omega
    have hix0 : (0 : Int) ≤ (ix : Int) := by omega
    have HF := Lib.hid hfin
    have HGET := Lib.hid hget
    have Q1 := Lib.hid q1
    have Q1' := Lib.hid q1'
    have Q2 := Lib.hid q2
    have Q2' := Lib.hid q2'
    have Q5 := Lib.hid q5
    have Q6 := Lib.hid q6
    clear hget hfin hxn hix hgo hao hdl hx0 hx1 hy0 hy1 hst0 q1 q1' q2 q2' q5 q6
    go_enter Try.func37, Try.ntmps37
    go_wp2_with fail
    refine HBO.out.mono ?_
    rintro e w1 ⟨rfl, hb2⟩
    have hb3 := below_trans hb1 hb2
    have b0 := (((Blk.new w 48 #[.slice A1 n1 c1, .slice A2 n2 c2] w.heap.size rfl).alloc (.cells #[.int .i64 a.start, .slice A3 a.accept.length c3, .slice A4 n4 c4] 50)).alloc (.cells #[.int .i64 (x : Int), .int .i64 y] 3)).keep hb2
    have b1 := ((Blk.new (w.alloc (.cells #[.slice A1 n1 c1, .slice A2 n2 c2] 48)) 50 #[.int .i64 a.start, .slice A3 a.accept.length c3, .slice A4 n4 c4] (w.heap.size + 1) (by simp)).alloc (.cells #[.int .i64 (x : Int), .int .i64 y] 3)).keep hb2
    have x0 : w1.cell? ⟨w.heap.size, 0, none⟩ = some (.slice A1 n1 c1) := b0.cell 0
    have x1 : w1.cell? ⟨w.heap.size, 1, none⟩ = some (.slice A2 n2 c2) := b0.cell 1
    have y0 : w1.cell? ⟨w.heap.size + 1, 0, none⟩ = some (.int .i64 a.start) := b1.cell 0
    have y1 : w1.cell? ⟨w.heap.size + 1, 1, none⟩ = some (.slice A3 a.accept.length c3) := b1.cell 1
    have y2 : w1.cell? ⟨w.heap.size + 1, 2, none⟩ = some (.slice A4 n4 c4) := b1.cell 2
    clear hb0 hb1 hb2 b0 b1 HBO
    go_wp2_with fail
    have q1 := Q1.out
    have q1' := Q1'.out
    have q2 := Q2.out
    have q2' := Q2'.out
    have q5 := Q5.out
    have q6 := Q6.out
    refine F_start 14 (fun w' => w'.cell? ⟨w.heap.size, 0, none⟩ = some (.slice A1 n1 c1) ∧ w'.cell? ⟨w.heap.size, 1, none⟩ = some (.slice A2 n2 c2) ∧ w'.cell? ⟨w.heap.size + 1, 0, none⟩ = some (.int .i64 a.start) ∧ w'.cell? ⟨w.heap.size + 1, 1, none⟩ = some (.slice A3 a.accept.length c3) ∧ w'.cell? ⟨w.heap.size + 1, 2, none⟩ = some (.slice A4 n4 c4)) (by kernel_rfl) (by exact ⟨x0, x1, y0, y1, y2⟩) (fun hS inv => ?_)
    refine F_take (i := 0) (v := ?_) rfl (by kernel_rfl) (by kernel_rfl) (by kernel_rfl) (fun _ _ _ h => h) inv (Or.inl ⟨by rfl, ?_⟩) (by assumption) (fun invn => ?_)
    rotate_left
    · (intro w hSw; (try dsimp only at hSw); go_simp; try with_reducible rfl)
    try simp only [List.getElem_toArray, List.getElem_cons_zero, List.getElem_cons_succ, Act.put, List.setIfInBounds_toArray, List.set_cons_zero, List.set_cons_succ]
    clear inv
    have inv := invn
    clear invn
    refine F_take (i := 1) (v := ?_) rfl (by kernel_rfl) (by kernel_rfl) (by kernel_rfl) (fun _ _ _ h => h) inv (Or.inl ⟨by rfl, ?_⟩) (by assumption) (fun invn => ?_)
    rotate_left
    · (intro w hSw; (try dsimp only at hSw); go_simp; try with_reducible rfl)
    try simp only [List.getElem_toArray, List.getElem_cons_zero, List.getElem_cons_succ, Act.put, List.setIfInBounds_toArray, List.set_cons_zero, List.set_cons_succ]
    clear inv
    have inv := invn
    clear invn
    refine F_take (i := 2) (v := ?_) rfl (by kernel_rfl) (by kernel_rfl) (by kernel_rfl) (fun _ _ _ h => h) inv (Or.inl ⟨by rfl, ?_⟩) (by assumption) (fun invn => ?_)
    rotate_left
    · (intro w hSw; (try dsimp only at hSw); go_simp; try with_reducible rfl)
    try simp only [List.getElem_toArray, List.getElem_cons_zero, List.getElem_cons_succ, Act.put, List.setIfInBounds_toArray, List.set_cons_zero, List.set_cons_succ]
    clear inv
    have inv := invn
    clear invn
    refine F_take (i := 4) (v := ?_) rfl (by kernel_rfl) (by kernel_rfl) (by kernel_rfl) (fun _ _ _ h => h) inv (Or.inl ⟨by rfl, ?_⟩) (by assumption) (fun invn => ?_)
    rotate_left
    · (intro w hSw; (try dsimp only at hSw); go_simp; try with_reducible rfl)
    try simp only [List.getElem_toArray, List.getElem_cons_zero, List.getElem_cons_succ, Act.put, List.setIfInBounds_toArray, List.set_cons_zero, List.set_cons_succ]
    clear inv
    have inv := invn
    clear invn
    refine F_take (i := 5) (v := ?_) rfl (by kernel_rfl) (by kernel_rfl) (by kernel_rfl) (fun _ _ _ h => h) inv (Or.inl ⟨by rfl, ?_⟩) (by assumption) (fun invn => ?_)
    rotate_left
    · (intro w hSw; (try dsimp only at hSw); go_simp; try with_reducible rfl)
    try simp only [List.getElem_toArray, List.getElem_cons_zero, List.getElem_cons_succ, Act.put, List.setIfInBounds_toArray, List.set_cons_zero, List.set_cons_succ]
    clear inv
    have inv := invn
    clear invn
    refine F_take (i := 6) (v := ?_) rfl (by kernel_rfl) (by kernel_rfl) (by kernel_rfl) (fun _ _ _ h => h) inv (Or.inl ⟨by rfl, ?_⟩) (by assumption) (fun invn => ?_)
    rotate_left
    · (intro w hSw; (try dsimp only at hSw); go_simp; try with_reducible rfl)
    try simp only [List.getElem_toArray, List.getElem_cons_zero, List.getElem_cons_succ, Act.put, List.setIfInBounds_toArray, List.set_cons_zero, List.set_cons_succ]
    clear inv
    have inv := invn
    clear invn
    refine F_take (i := 7) (v := ?_) rfl (by kernel_rfl) (by kernel_rfl) (by kernel_rfl) (fun _ _ _ h => h) inv (Or.inl ⟨by rfl, ?_⟩) (by assumption) (fun invn => ?_)
    rotate_left
    · (intro w hSw; (try dsimp only at hSw); go_simp; try with_reducible rfl)
    try simp only [List.getElem_toArray, List.getElem_cons_zero, List.getElem_cons_succ, Act.put, List.setIfInBounds_toArray, List.set_cons_zero, List.set_cons_succ]
    clear inv
    have inv := invn
    clear invn
    refine F_take (i := 8) (v := ?_) rfl (by kernel_rfl) (by kernel_rfl) (by kernel_rfl) (fun _ _ _ h => h) inv (Or.inl ⟨by rfl, ?_⟩) (by assumption) (fun invn => ?_)
    rotate_left
    · (intro w hSw; (try dsimp only at hSw); go_simp; try with_reducible rfl)
    try simp only [List.getElem_toArray, List.getElem_cons_zero, List.getElem_cons_succ, Act.put, List.setIfInBounds_toArray, List.set_cons_zero, List.set_cons_succ]
    clear inv
    have inv := invn
    clear invn
    refine F_take (i := 9) (v := ?_) rfl (by kernel_rfl) (by kernel_rfl) (by kernel_rfl) (fun _ _ _ h => h) inv (Or.inl ⟨by rfl, ?_⟩) (by assumption) (fun invn => ?_)
    rotate_left
    · (intro w hSw; (try dsimp only at hSw); go_simp; try with_reducible rfl)
    try simp only [List.getElem_toArray, List.getElem_cons_zero, List.getElem_cons_succ, Act.put, List.setIfInBounds_toArray, List.set_cons_zero, List.set_cons_succ]
    clear inv
    have inv := invn
    clear invn
    refine F_take (i := 10) (v := ?_) rfl (by kernel_rfl) (by kernel_rfl) (by kernel_rfl) (fun _ _ _ h => h) inv (Or.inl ⟨by rfl, ?_⟩) (by assumption) (fun invn => ?_)
    rotate_left
    · (intro w hSw; (try dsimp only at hSw); go_simp; try with_reducible rfl)
    try simp only [List.getElem_toArray, List.getElem_cons_zero, List.getElem_cons_succ, Act.put, List.setIfInBounds_toArray, List.set_cons_zero, List.set_cons_succ]
    clear inv
    have inv := invn
    clear invn
    refine F_take (i := 11) (v := ?_) rfl (by kernel_rfl) (by kernel_rfl) (by kernel_rfl) (fun _ _ _ h => h) inv (Or.inl ⟨by rfl, ?_⟩) (by assumption) (fun invn => ?_)
    rotate_left
    · (intro w hSw; (try dsimp only at hSw); go_simp; try with_reducible rfl)
    try simp only [List.getElem_toArray, List.getElem_cons_zero, List.getElem_cons_succ, Act.put, List.setIfInBounds_toArray, List.set_cons_zero, List.set_cons_succ]
    clear inv
    have inv := invn
    clear invn
    refine F_one (i := 3) (by kernel_rfl) rfl rfl (by omega) inv (fun K hK => ?_)
    try simp only [List.getElem_toArray, List.getElem_cons_zero, List.getElem_cons_succ]
    go_simp
    refine (implDistancesTo _ _ g a y _ (GrV.keep (w' := w1.drew) HGV.out hb3.drew) (AuV.keep (w' := w1.drew) HAV.out hb3.drew)).mono ?_
    rintro e wD ⟨vD, rfl, hoD, hbD⟩
    obtain ⟨A5, c5, rfl, hl5, hm5, hC5⟩ := hoD.form cI_len
    obtain ⟨b5, o5, rfl, hb5, d5⟩ := hC5.int HGET.out
    refine hK.out _ _ (kB5 hbD hS) (fun hSn invn => ?_)
    try simp only [List.getElem_toArray, List.getElem_cons_zero, List.getElem_cons_succ, Act.put, List.setIfInBounds_toArray, List.set_cons_zero, List.set_cons_succ]
    clear hK K inv hS
    have inv := invn
    have hS := hSn
    clear invn hSn
    refine F_take (i := 12) (v := ?_) rfl (by kernel_rfl) (by kernel_rfl) (by kernel_rfl) (fun _ _ _ h => h) inv (Or.inl ⟨by rfl, ?_⟩) (by assumption) (fun invn => ?_)
    rotate_left
    · (intro w hSw; (try dsimp only at hSw); go_simp; try with_reducible rfl)
    try simp only [List.getElem_toArray, List.getElem_cons_zero, List.getElem_cons_succ, Act.put, List.setIfInBounds_toArray, List.set_cons_zero, List.set_cons_succ]
    clear inv
    have inv := invn
    clear invn
    refine F_one (i := 13) (by kernel_rfl) rfl rfl (by omega) inv (fun K hK => ?_)
    try simp only [List.getElem_toArray, List.getElem_cons_zero, List.getElem_cons_succ]
    go_simp
    refine hK.out _ _ (hS) (fun hSn invn => ?_)
    try simp only [List.getElem_toArray, List.getElem_cons_zero, List.getElem_cons_succ, Act.put, List.setIfInBounds_toArray, List.set_cons_zero, List.set_cons_succ]
    clear hK K inv hS
    have inv := invn
    have hS := hSn
    clear invn hSn
    refine F_last (i := 14) (by kernel_rfl) rfl rfl (by omega) (by kernel_rfl) (fun K hK => ?_)
    go_simp
    refine hK _ _ ?_
    clear hK K inv hS
    clear q1 q1' q2 q2' q5 q6
    go_wp2_with fail
    go_ret
    exact ⟨by rw [HF.out]; simp [List.getElem?_eq_getElem hixl], below_trans hb3.drew hbD⟩
end Go.Proofs.Ytmlfkledhnlkeaa
