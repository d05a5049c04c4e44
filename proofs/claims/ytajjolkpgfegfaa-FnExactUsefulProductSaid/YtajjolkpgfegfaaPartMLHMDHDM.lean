/- Parts of the proof, joined into one text: ShortI, ShortS, Meet. -/
import Derived.Test.YtajjolkpgfegfaaPartCPDJAGBF
import Derived.Test.YtajjolkpgfegfaaPartBMFBDDJF
import Derived.Test.YtajjolkpgfegfaaPartCDOKCKDD
import Derived.Test.YtajjolkpgfegfaaPartEOLBEOLD
/- The program's ShortestLength. -/
namespace Go.Proofs.Ytajjolkpgfegfaa
set_option linter.unusedVariables false
set_option linter.unusedSimpArgs false
open Go.ChangeShapes Go.WideShapes Go.ChangeAt Go.RowKit
attribute [local go_sem] ext_cell ext_frozen ext_lt ext_lt1 ext_lt2 ext_lt3 ltn2 ltn3 ltn13 lts1 lts2 lts3

set_option maxHeartbeats 4000000 in
set_option maxRecDepth 100000 in
theorem implShortestLength (vg va : Value) (g : Gr) (a : Au) (x y : Int) (w : World) (hgv : GrV 0 w.heap.size w vg g) (hav : AuV 0 w.heap.size w va a) :
    Calls Try.prog 88 #[vg, va, .int .i64 x, .int .i64 y] w fun e w' => e = .returned (.int .i64 (shortLen g a x y)) ∧ Below w.heap.size w w' := by
  have hgv0 := hgv
  have hav0 := hav
  obtain ⟨A1, n1, c1, A2, n2, c2, rfl⟩ := hgv.shape
  obtain ⟨ac, nx, rfl, hac, hnx⟩ := hav
  obtain ⟨A3, c3, rfl, -, -, -⟩ := SlE.form hac
  obtain ⟨A4, n4, c4, rfl⟩ := hnx.shape
  have hb0 : Below w.heap.size w ((w.alloc (.cells #[.slice A1 n1 c1, .slice A2 n2 c2] 35)).alloc (.cells #[.int .i64 a.start, .slice A3 a.accept.length c3, .slice A4 n4 c4] 37)) := ((Below.refl _ _).alloc (Nat.le_refl _) _).alloc (by simp) _
  have hb1 := hb0.alloc hb0.size (.cells #[.int .i64 x, .int .i64 y] 3)
  have hst : SlE (((w.alloc (.cells #[.slice A1 n1 c1, .slice A2 n2 c2] 35)).alloc (.cells #[.int .i64 a.start, .slice A3 a.accept.length c3, .slice A4 n4 c4] 37)).alloc (.cells #[.int .i64 x, .int .i64 y] 3)) cI 1 (.slice (some ⟨w.heap.size + 1 + 1, 0, none⟩) 2 2) [x, y] := by
    have h := lit_sl ((w.alloc (.cells #[.slice A1 n1 c1, .slice A2 n2 c2] 35)).alloc (.cells #[.int .i64 a.start, .slice A3 a.accept.length c3, .slice A4 n4 c4] 37)) 3 [x, y] (by unfold maxLen; simp)
    simpa using h
  have hbo := bothOk_any _ _ _ g a [x, y] _ (hgv0.keep hb1) (hav0.keep hb1) hst
  have HBO := Lib.hid hbo
  have HGV := Lib.hid hgv0
  have HAV := Lib.hid hav0
  clear hgv hac hnx hgv0 hav0 hbo hst
  cases hk : ([x, y].all (fun s => wi s 0 ((g.vals.length : Int) - 1)) && (grOk g && auOk a)) with
  | false =>
    rw [hk] at HBO
    have hfin : shortLen g a x y = -1 := by unfold shortLen; rw [if_neg]; simpa [Bool.and_assoc] using hk
    have HF := Lib.hid hfin
    clear hk hfin
    go_enter Try.func88, Try.ntmps88
    go_wp2_with fail
    refine HBO.out.mono ?_
    rintro e w1 ⟨rfl, hb2⟩
    go_wp2_with fail
    go_ret
    exact ⟨by rw [HF.out]; rfl, below_trans hb1 hb2⟩
  | true =>
    rw [hk] at HBO
    simp only [List.all_cons, List.all_nil, Bool.and_true, Bool.and_eq_true, wi_iff] at hk
    obtain ⟨⟨⟨hx0, hx1⟩, hy0, hy1⟩, hgo, hao⟩ := hk
    have hdl := distTo_len (g := g) (a := a) (y := y) (by simp [wi_iff, hy0, hy1, hgo, hao])
    obtain ⟨x, rfl⟩ := Int.eq_ofNat_of_zero_le hx0
    have hst0 := (auOk_iff.1 hao).2.1
    have hm12 := (auOk_iff.1 hao).1.2
    have hn5 := (grOk_iff.1 hgo).n5
    obtain ⟨xn, hxn⟩ : ∃ xn, xn = x * a.accept.length := ⟨_, rfl⟩
    have hxn2 : xn + a.accept.length ≤ g.vals.length * a.accept.length := by rw [hxn]; have := Nat.mul_le_mul_right a.accept.length (show x + 1 ≤ g.vals.length by omega); rw [Nat.succ_mul] at this; exact this
    have hN60 : g.vals.length * a.accept.length ≤ 60 := by have := Nat.mul_le_mul hn5 hm12; omega
    rw [← hdl] at hxn2 hN60
    obtain ⟨ix, hix⟩ : ∃ ix : Nat, (ix : Int) = (xn : Int) + a.start := ⟨(xn + a.start.toNat), by omega⟩
    have hixl : ix < (distTo g a y).length := by omega
    have hfin : shortLen g a x y = (distTo g a y).getD ix 0 := by
      unfold shortLen
      rw [if_pos (by simp [wi_iff, hx0, hx1, hy0, hy1, hgo, hao]), Int.toNat_natCast, ← hxn]
      congr 1
      omega
    have hget := getD_of hixl
    have q1 : IntKind.i64.wrap ((x : Int) * (a.accept.length : Int)) = (xn : Int) := by rw [IntWalk.i64_in _ (by rw [← Int.natCast_mul, ← hxn]; omega), hxn, Int.natCast_mul]
    have q1' : (x : Int) * (a.accept.length : Int) = (xn : Int) := by rw [hxn, Int.natCast_mul]
    have q2 : IntKind.i64.wrap ((xn : Int) + a.start) = (ix : Int) := by rw [← hix]; exact IntWalk.i64_in _ (by omega)
    have q2' : (xn : Int) + a.start = (ix : Int) := hix.symm
    have q5 : IntKind.i64.wrap (xn : Int) = (xn : Int) := IntWalk.i64_in _ (by omega)
    have q6 : IntKind.i64.wrap (ix : Int) = (ix : Int) := IntWalk.i64_in _ (by omega)
    have hixi : (ix : Int) < ((distTo g a y).length : Int) := by omega
    have hix0 : (0 : Int) ≤ (ix : Int) := by omega
    have HF := Lib.hid hfin
    have HGET := Lib.hid hget
    have Q1 := Lib.hid q1
    have Q1' := Lib.hid q1'
    have Q2 := Lib.hid q2
    have Q2' := Lib.hid q2'
    have Q5 := Lib.hid q5
    have Q6 := Lib.hid q6
    clear hget hfin hxn hix hgo hao hdl hx0 hx1 hy0 hy1 hst0 q1 q1' q2 q2' q5 q6
    go_enter Try.func88, Try.ntmps88
    go_wp2_with fail
    refine HBO.out.mono ?_
    rintro e w1 ⟨rfl, hb2⟩
    have hb3 := below_trans hb1 hb2
    have b0 := (((Blk.new w 35 #[.slice A1 n1 c1, .slice A2 n2 c2] w.heap.size rfl).alloc (.cells #[.int .i64 a.start, .slice A3 a.accept.length c3, .slice A4 n4 c4] 37)).alloc (.cells #[.int .i64 (x : Int), .int .i64 y] 3)).keep hb2
    have b1 := ((Blk.new (w.alloc (.cells #[.slice A1 n1 c1, .slice A2 n2 c2] 35)) 37 #[.int .i64 a.start, .slice A3 a.accept.length c3, .slice A4 n4 c4] (w.heap.size + 1) (by simp)).alloc (.cells #[.int .i64 (x : Int), .int .i64 y] 3)).keep hb2
    have x0 : w1.cell? ⟨w.heap.size, 0, none⟩ = some (.slice A1 n1 c1) := b0.cell 0
    have x1 : w1.cell? ⟨w.heap.size, 1, none⟩ = some (.slice A2 n2 c2) := b0.cell 1
    have y0 : w1.cell? ⟨w.heap.size + 1, 0, none⟩ = some (.int .i64 a.start) := b1.cell 0
    have y1 : w1.cell? ⟨w.heap.size + 1, 1, none⟩ = some (.slice A3 a.accept.length c3) := b1.cell 1
    have y2 : w1.cell? ⟨w.heap.size + 1, 2, none⟩ = some (.slice A4 n4 c4) := b1.cell 2
    clear hb0 hb1 hb2 b0 b1 HBO
    go_wp2_with fail
    have q1 := Q1.out
    have q1' := Q1'.out
    have q2 := Q2.out
    have q2' := Q2'.out
    have q5 := Q5.out
    have q6 := Q6.out
    refine F_start 14 (fun w' => w'.cell? ⟨w.heap.size, 0, none⟩ = some (.slice A1 n1 c1) ∧ w'.cell? ⟨w.heap.size, 1, none⟩ = some (.slice A2 n2 c2) ∧ w'.cell? ⟨w.heap.size + 1, 0, none⟩ = some (.int .i64 a.start) ∧ w'.cell? ⟨w.heap.size + 1, 1, none⟩ = some (.slice A3 a.accept.length c3) ∧ w'.cell? ⟨w.heap.size + 1, 2, none⟩ = some (.slice A4 n4 c4)) (by kernel_rfl) (by exact ⟨x0, x1, y0, y1, y2⟩) (fun hS inv => ?_)
    refine F_take (i := 0) (v := ?_) rfl (by kernel_rfl) (by kernel_rfl) (by kernel_rfl) (fun _ _ _ h => h) inv (Or.inl ⟨by rfl, ?_⟩) (by assumption) (fun invn => ?_)
    rotate_left
    · (intro w hSw; (try dsimp only at hSw); go_simp; try with_reducible rfl)
    try simp only [List.getElem_toArray, List.getElem_cons_zero, List.getElem_cons_succ, Act.put, List.setIfInBounds_toArray, List.set_cons_zero, List.set_cons_succ]
    clear inv
    have inv := invn
    clear invn
    refine F_take (i := 1) (v := ?_) rfl (by kernel_rfl) (by kernel_rfl) (by kernel_rfl) (fun _ _ _ h => h) inv (Or.inl ⟨by rfl, ?_⟩) (by assumption) (fun invn => ?_)
    rotate_left
    · (intro w hSw; (try dsimp only at hSw); go_simp; try with_reducible rfl)
    try simp only [List.getElem_toArray, List.getElem_cons_zero, List.getElem_cons_succ, Act.put, List.setIfInBounds_toArray, List.set_cons_zero, List.set_cons_succ]
    clear inv
    have inv := invn
    clear invn
    refine F_take (i := 2) (v := ?_) rfl (by kernel_rfl) (by kernel_rfl) (by kernel_rfl) (fun _ _ _ h => h) inv (Or.inl ⟨by rfl, ?_⟩) (by assumption) (fun invn => ?_)
    rotate_left
    · (intro w hSw; (try dsimp only at hSw); go_simp; try with_reducible rfl)
    try simp only [List.getElem_toArray, List.getElem_cons_zero, List.getElem_cons_succ, Act.put, List.setIfInBounds_toArray, List.set_cons_zero, List.set_cons_succ]
    clear inv
    have inv := invn
    clear invn
    refine F_take (i := 4) (v := ?_) rfl (by kernel_rfl) (by kernel_rfl) (by kernel_rfl) (fun _ _ _ h => h) inv (Or.inl ⟨by rfl, ?_⟩) (by assumption) (fun invn => ?_)
    rotate_left
    · (intro w hSw; (try dsimp only at hSw); go_simp; try with_reducible rfl)
    try simp only [List.getElem_toArray, List.getElem_cons_zero, List.getElem_cons_succ, Act.put, List.setIfInBounds_toArray, List.set_cons_zero, List.set_cons_succ]
    clear inv
    have inv := invn
    clear invn
    refine F_take (i := 5) (v := ?_) rfl (by kernel_rfl) (by kernel_rfl) (by kernel_rfl) (fun _ _ _ h => h) inv (Or.inl ⟨by rfl, ?_⟩) (by assumption) (fun invn => ?_)
    rotate_left
    · (intro w hSw; (try dsimp only at hSw); go_simp; try with_reducible rfl)
    try simp only [List.getElem_toArray, List.getElem_cons_zero, List.getElem_cons_succ, Act.put, List.setIfInBounds_toArray, List.set_cons_zero, List.set_cons_succ]
    clear inv
    have inv := invn
    clear invn
    refine F_take (i := 6) (v := ?_) rfl (by kernel_rfl) (by kernel_rfl) (by kernel_rfl) (fun _ _ _ h => h) inv (Or.inl ⟨by rfl, ?_⟩) (by assumption) (fun invn => ?_)
    rotate_left
    · (intro w hSw; (try dsimp only at hSw); go_simp; try with_reducible rfl)
    try simp only [List.getElem_toArray, List.getElem_cons_zero, List.getElem_cons_succ, Act.put, List.setIfInBounds_toArray, List.set_cons_zero, List.set_cons_succ]
    clear inv
    have inv := invn
    clear invn
    refine F_take (i := 7) (v := ?_) rfl (by kernel_rfl) (by kernel_rfl) (by kernel_rfl) (fun _ _ _ h => h) inv (Or.inl ⟨by rfl, ?_⟩) (by assumption) (fun invn => ?_)
    rotate_left
    · (intro w hSw; (try dsimp only at hSw); go_simp; try with_reducible rfl)
    try simp only [List.getElem_toArray, List.getElem_cons_zero, List.getElem_cons_succ, Act.put, List.setIfInBounds_toArray, List.set_cons_zero, List.set_cons_succ]
    clear inv
    have inv := invn
    clear invn
    refine F_take (i := 8) (v := ?_) rfl (by kernel_rfl) (by kernel_rfl) (by kernel_rfl) (fun _ _ _ h => h) inv (Or.inl ⟨by rfl, ?_⟩) (by assumption) (fun invn => ?_)
    rotate_left
    · (intro w hSw; (try dsimp only at hSw); go_simp; try with_reducible rfl)
    try simp only [List.getElem_toArray, List.getElem_cons_zero, List.getElem_cons_succ, Act.put, List.setIfInBounds_toArray, List.set_cons_zero, List.set_cons_succ]
    clear inv
    have inv := invn
    clear invn
    refine F_take (i := 9) (v := ?_) rfl (by kernel_rfl) (by kernel_rfl) (by kernel_rfl) (fun _ _ _ h => h) inv (Or.inl ⟨by rfl, ?_⟩) (by assumption) (fun invn => ?_)
    rotate_left
    · (intro w hSw; (try dsimp only at hSw); go_simp; try with_reducible rfl)
    try simp only [List.getElem_toArray, List.getElem_cons_zero, List.getElem_cons_succ, Act.put, List.setIfInBounds_toArray, List.set_cons_zero, List.set_cons_succ]
    clear inv
    have inv := invn
    clear invn
    refine F_take (i := 10) (v := ?_) rfl (by kernel_rfl) (by kernel_rfl) (by kernel_rfl) (fun _ _ _ h => h) inv (Or.inl ⟨by rfl, ?_⟩) (by assumption) (fun invn => ?_)
    rotate_left
    · (intro w hSw; (try dsimp only at hSw); go_simp; try with_reducible rfl)
    try simp only [List.getElem_toArray, List.getElem_cons_zero, List.getElem_cons_succ, Act.put, List.setIfInBounds_toArray, List.set_cons_zero, List.set_cons_succ]
    clear inv
    have inv := invn
    clear invn
    refine F_take (i := 11) (v := ?_) rfl (by kernel_rfl) (by kernel_rfl) (by kernel_rfl) (fun _ _ _ h => h) inv (Or.inl ⟨by rfl, ?_⟩) (by assumption) (fun invn => ?_)
    rotate_left
    · (intro w hSw; (try dsimp only at hSw); go_simp; try with_reducible rfl)
    try simp only [List.getElem_toArray, List.getElem_cons_zero, List.getElem_cons_succ, Act.put, List.setIfInBounds_toArray, List.set_cons_zero, List.set_cons_succ]
    clear inv
    have inv := invn
    clear invn
    refine F_one (i := 3) (by kernel_rfl) rfl rfl (by omega) inv (fun K hK => ?_)
    try simp only [List.getElem_toArray, List.getElem_cons_zero, List.getElem_cons_succ]
    go_simp
    refine (implDistancesTo _ _ g a y _ (GrV.keep (w' := w1.drew) HGV.out hb3.drew) (AuV.keep (w' := w1.drew) HAV.out hb3.drew)).mono ?_
    rintro e wD ⟨vD, rfl, hoD, hbD⟩
    obtain ⟨A5, c5, rfl, hl5, hm5, hC5⟩ := hoD.form cI_len
    obtain ⟨b5, o5, rfl, hb5, d5⟩ := hC5.int HGET.out
    refine hK.out _ _ (kB5 hbD hS) (fun hSn invn => ?_)
    try simp only [List.getElem_toArray, List.getElem_cons_zero, List.getElem_cons_succ, Act.put, List.setIfInBounds_toArray, List.set_cons_zero, List.set_cons_succ]
    clear hK K inv hS
    have inv := invn
    have hS := hSn
    clear invn hSn
    refine F_take (i := 12) (v := ?_) rfl (by kernel_rfl) (by kernel_rfl) (by kernel_rfl) (fun _ _ _ h => h) inv (Or.inl ⟨by rfl, ?_⟩) (by assumption) (fun invn => ?_)
    rotate_left
    · (intro w hSw; (try dsimp only at hSw); go_simp; try with_reducible rfl)
    try simp only [List.getElem_toArray, List.getElem_cons_zero, List.getElem_cons_succ, Act.put, List.setIfInBounds_toArray, List.set_cons_zero, List.set_cons_succ]
    clear inv
    have inv := invn
    clear invn
    refine F_one (i := 13) (by kernel_rfl) rfl rfl (by omega) inv (fun K hK => ?_)
    try simp only [List.getElem_toArray, List.getElem_cons_zero, List.getElem_cons_succ]
    go_simp
    refine hK.out _ _ (hS) (fun hSn invn => ?_)
    try simp only [List.getElem_toArray, List.getElem_cons_zero, List.getElem_cons_succ, Act.put, List.setIfInBounds_toArray, List.set_cons_zero, List.set_cons_succ]
    clear hK K inv hS
    have inv := invn
    have hS := hSn
    clear invn hSn
    refine F_last (i := 14) (by kernel_rfl) rfl rfl (by omega) (by kernel_rfl) (fun K hK => ?_)
    go_simp
    refine hK _ _ ?_
    clear hK K inv hS
    clear q1 q1' q2 q2' q5 q6
    go_wp2_with fail
    go_ret
    exact ⟨by rw [HF.out]; simp [List.getElem?_eq_getElem hixl], below_trans hb3.drew hbD⟩
end Go.Proofs.Ytajjolkpgfegfaa

/- The reference's ShortestLength. -/
namespace Go.Proofs.Ytajjolkpgfegfaa
set_option linter.unusedVariables false
set_option linter.unusedSimpArgs false
open Go.ChangeShapes Go.WideShapes Go.ChangeAt Go.RowKit
attribute [local go_sem] ext_cell ext_frozen ext_lt ext_lt1 ext_lt2 ext_lt3 ltn2 ltn3 ltn13 lts1 lts2 lts3

theorem goodB0 (g : Gr) (a : Au) (x : Int) : goodB g a x 0 = (grOk g && (auOk a && wi x 0 ((g.vals.length : Int) - 1))) := by
  unfold goodB
  cases h : auOk a with
  | false => simp
  | true =>
    have h1 := (auOk_iff.1 h).1.1
    have h2 : wi 0 0 ((a.accept.length : Int) - 1) = true := wi_iff.2 (by omega)
    rw [h2]
    simp
set_option maxHeartbeats 4000000 in
set_option maxRecDepth 100000 in
theorem specShortestLength (vg va : Value) (g : Gr) (a : Au) (x y : Int) (w : World) (hgv : GrV 0 w.heap.size w vg g) (hav : AuV 0 w.heap.size w va a) :
    Calls Try.prog 87 #[vg, va, .int .i64 x, .int .i64 y] w fun e w' => e = .returned (.int .i64 (shortLen g a x y)) ∧ Below w.heap.size w w' := by
  have hgv0 := hgv
  have hav0 := hav
  obtain ⟨A1, n1, c1, A2, n2, c2, rfl⟩ := hgv.shape
  obtain ⟨ac, nx, rfl, hac, hnx⟩ := hav
  obtain ⟨A3, c3, rfl, -, -, -⟩ := SlE.form hac
  obtain ⟨A4, n4, c4, rfl⟩ := hnx.shape
  have hb0 : Below w.heap.size w ((w.alloc (.cells #[.slice A1 n1 c1, .slice A2 n2 c2] 35)).alloc (.cells #[.int .i64 a.start, .slice A3 a.accept.length c3, .slice A4 n4 c4] 37)) := ((Below.refl _ _).alloc (Nat.le_refl _) _).alloc (by simp) _
  have HGV := Lib.hid hgv0
  have HAV := Lib.hid hav0
  clear hgv hac hnx hgv0 hav0
  go_enter Try.func87, Try.ntmps87
  go_wp2_with fail
  obtain ⟨W0, hW0⟩ : ∃ W0, W0 = ((w.alloc (.cells #[.slice A1 n1 c1, .slice A2 n2 c2] 35)).alloc (.cells #[.int .i64 a.start, .slice A3 a.accept.length c3, .slice A4 n4 c4] 37)) := ⟨_, rfl⟩
  rw [← hW0] at hb0 ⊢
  have x0 : W0.cell? ⟨w.heap.size, 0, none⟩ = some (.slice A1 n1 c1) := by rw [hW0]; simp
  have x1 : W0.cell? ⟨w.heap.size, 1, none⟩ = some (.slice A2 n2 c2) := by rw [hW0]; simp
  have y0 : W0.cell? ⟨w.heap.size + 1, 0, none⟩ = some (.int .i64 a.start) := by rw [hW0]; simp
  have y1 : W0.cell? ⟨w.heap.size + 1, 1, none⟩ = some (.slice A3 a.accept.length c3) := by rw [hW0]; simp
  have y2 : W0.cell? ⟨w.heap.size + 1, 2, none⟩ = some (.slice A4 n4 c4) := by rw [hW0]; simp
  have hs0 : w.heap.size + 1 + 1 = W0.heap.size := by rw [hW0]; simp
  try rw [hs0]
  have l0 : w.heap.size + 1 < W0.heap.size := by omega
  have l00 : w.heap.size < W0.heap.size := by omega
  clear hW0 hs0
  have hgx := l14Good_any _ _ g a x 0 W0 (HGV.out.keep hb0) (HAV.out.keep hb0)
  have HGX := Lib.hid hgx
  clear hgx
  cases hk : goodB g a x 0 with
  | false =>
    rw [hk] at HGX
    have hfin : shortLen g a x y = -1 := by
      unfold shortLen
      rw [if_neg]
      intro h
      rw [goodB0] at hk
      simp only [Bool.and_eq_true] at h
      simp [h] at hk
    have HF := Lib.hid hfin
    clear hk hfin
    refine HGX.out.mono ?_
    rintro e w1 ⟨rfl, hb1⟩
    go_wp2_with fail
    go_ret
    exact ⟨by rw [HF.out]; rfl, below_trans hb0 hb1⟩
  | true =>
    rw [hk] at HGX
    have HK := Lib.hid hk
    clear hk
    refine HGX.out.mono ?_
    rintro e w1 ⟨rfl, hb1⟩
    have hb2 := below_trans hb0 hb1
    have x0 := kcell hb1 x0
    have x1 := kcell hb1 x1
    have y0 := kcell hb1 y0
    have y1 := kcell hb1 y1
    have y2 := kcell hb1 y2
    have l0 := Nat.lt_of_lt_of_le l0 hb1.size
    have l00 := Nat.lt_of_lt_of_le l00 hb1.size
    have hgy := l14Good_any _ _ g a y 0 w1 (HGV.out.keep hb2) (HAV.out.keep hb2)
    have HGY := Lib.hid hgy
    clear hgy
    cases hk : goodB g a y 0 with
    | false =>
      rw [hk] at HGY
      have hfin : shortLen g a x y = -1 := by
        unfold shortLen
        rw [if_neg]
        intro h
        rw [goodB0] at hk
        simp only [Bool.and_eq_true] at h
        simp [h] at hk
      have HF := Lib.hid hfin
      clear hk hfin
      go_wp2_with fail
      refine HGY.out.mono ?_
      rintro e w3 ⟨rfl, hb3⟩
      go_wp2_with fail
      go_ret
      exact ⟨by rw [HF.out]; rfl, below_trans hb2 hb3⟩
    | true =>
      rw [hk] at HGY
      rw [goodB0] at hk
      have hk2 := HK.out
      rw [goodB0] at hk2
      simp only [Bool.and_eq_true, wi_iff] at hk hk2
      obtain ⟨hgo, hao, hy0, hy1⟩ := hk
      obtain ⟨-, -, hx0, hx1⟩ := hk2
      have hdl := distTo_len (g := g) (a := a) (y := y) (by simp [wi_iff, hy0, hy1, hgo, hao])
      obtain ⟨x, rfl⟩ := Int.eq_ofNat_of_zero_le hx0
      obtain ⟨y, rfl⟩ := Int.eq_ofNat_of_zero_le hy0
      have hst0 := (auOk_iff.1 hao).2.1
      have hm12 := (auOk_iff.1 hao).1.2
      have hn5 := (grOk_iff.1 hgo).n5
      obtain ⟨xn, hxn⟩ : ∃ xn, xn = x * a.accept.length := ⟨_, rfl⟩
      have hxn2 : xn + a.accept.length ≤ g.vals.length * a.accept.length := by rw [hxn]; have := Nat.mul_le_mul_right a.accept.length (show x + 1 ≤ g.vals.length by omega); rw [Nat.succ_mul] at this; exact this
      have hN60 : g.vals.length * a.accept.length ≤ 60 := by have := Nat.mul_le_mul hn5 hm12; omega
      rw [← hdl] at hxn2 hN60
      obtain ⟨ix, hix⟩ : ∃ ix : Nat, (ix : Int) = (xn : Int) + a.start := ⟨(xn + a.start.toNat), by omega⟩
      have hixl : ix < (distTo g a (y : Int)).length := by omega
      have hfin : shortLen g a (x : Int) (y : Int) = (distTo g a (y : Int)).getD ix 0 := by
        unfold shortLen
        rw [if_pos (by simp [wi_iff, hx0, hx1, hy0, hy1, hgo, hao]), Int.toNat_natCast, ← hxn]
        congr 1
        omega
      have hget := getD_of hixl
      have q1' : (x : Int) * (a.accept.length : Int) = (xn : Int) := by rw [hxn, Int.natCast_mul]
      have q1 : IntKind.i64.wrap ((x : Int) * (a.accept.length : Int)) = (xn : Int) := by rw [q1']; exact IntWalk.i64_in _ (by omega)
      have q2 : IntKind.i64.wrap ((xn : Int) + a.start) = (ix : Int) := by rw [← hix]; exact IntWalk.i64_in _ (by omega)
      have q2' : (xn : Int) + a.start = (ix : Int) := hix.symm
      have q5 : IntKind.i64.wrap (xn : Int) = (xn : Int) := IntWalk.i64_in _ (by omega)
      have q6 : IntKind.i64.wrap (ix : Int) = (ix : Int) := IntWalk.i64_in _ (by omega)
      have hixi : (ix : Int) < ((distTo g a (y : Int)).length : Int) := by omega
      have hix0 : (0 : Int) ≤ (ix : Int) := by omega
      have hyl : y < g.vals.length := by omega
      have HF := Lib.hid hfin
      have HGET := Lib.hid hget
      have Q1 := Lib.hid q1
      have Q1' := Lib.hid q1'
      have Q2 := Lib.hid q2
      have Q2' := Lib.hid q2'
      have Q5 := Lib.hid q5
      have Q6 := Lib.hid q6
      have HGO := Lib.hid hgo
      have HAO := Lib.hid hao
      clear hget hfin hxn hix hgo hao hdl hx0 hx1 hy0 hy1 hst0 q1 q1' q2 q2' q5 q6
      go_wp2_with fail
      refine HGY.out.mono ?_
      rintro e w3 ⟨rfl, hb3⟩
      have hb4 := below_trans hb2 hb3
      have x0 := kcell hb3 x0
      have x1 := kcell hb3 x1
      have y0 := kcell hb3 y0
      have y1 := kcell hb3 y1
      have y2 := kcell hb3 y2
      clear hb0 hb1 hb2 hb3 HGY HGX HK
      go_wp2_with fail
      have q1 := Q1.out
      have q1' := Q1'.out
      have q2 := Q2.out
      have q2' := Q2'.out
      have q5 := Q5.out
      have q6 := Q6.out
      refine F_start 14 (fun w' => w'.cell? ⟨w.heap.size, 0, none⟩ = some (.slice A1 n1 c1) ∧ w'.cell? ⟨w.heap.size, 1, none⟩ = some (.slice A2 n2 c2) ∧ w'.cell? ⟨w.heap.size + 1, 0, none⟩ = some (.int .i64 a.start) ∧ w'.cell? ⟨w.heap.size + 1, 1, none⟩ = some (.slice A3 a.accept.length c3) ∧ w'.cell? ⟨w.heap.size + 1, 2, none⟩ = some (.slice A4 n4 c4)) (by kernel_rfl) (by exact ⟨x0, x1, y0, y1, y2⟩) (fun hS inv => ?_)
      refine F_take (i := 0) (v := ?_) rfl (by kernel_rfl) (by kernel_rfl) (by kernel_rfl) (fun _ _ _ h => h) inv (Or.inl ⟨by rfl, ?_⟩) (by assumption) (fun invn => ?_)
      rotate_left
      · (intro w hSw; (try dsimp only at hSw); go_simp; try with_reducible rfl)
      try simp only [List.getElem_toArray, List.getElem_cons_zero, List.getElem_cons_succ, Act.put, List.setIfInBounds_toArray, List.set_cons_zero, List.set_cons_succ]
      clear inv
      have inv := invn
      clear invn
      refine F_take (i := 1) (v := ?_) rfl (by kernel_rfl) (by kernel_rfl) (by kernel_rfl) (fun _ _ _ h => h) inv (Or.inl ⟨by rfl, ?_⟩) (by assumption) (fun invn => ?_)
      rotate_left
      · (intro w hSw; (try dsimp only at hSw); go_simp; try with_reducible rfl)
      try simp only [List.getElem_toArray, List.getElem_cons_zero, List.getElem_cons_succ, Act.put, List.setIfInBounds_toArray, List.set_cons_zero, List.set_cons_succ]
      clear inv
      have inv := invn
      clear invn
      refine F_take (i := 2) (v := ?_) rfl (by kernel_rfl) (by kernel_rfl) (by kernel_rfl) (fun _ _ _ h => h) inv (Or.inl ⟨by rfl, ?_⟩) (by assumption) (fun invn => ?_)
      rotate_left
      · (intro w hSw; (try dsimp only at hSw); go_simp; try with_reducible rfl)
      try simp only [List.getElem_toArray, List.getElem_cons_zero, List.getElem_cons_succ, Act.put, List.setIfInBounds_toArray, List.set_cons_zero, List.set_cons_succ]
      clear inv
      have inv := invn
      clear invn
      refine F_take (i := 4) (v := ?_) rfl (by kernel_rfl) (by kernel_rfl) (by kernel_rfl) (fun _ _ _ h => h) inv (Or.inl ⟨by rfl, ?_⟩) (by assumption) (fun invn => ?_)
      rotate_left
      · (intro w hSw; (try dsimp only at hSw); go_simp; try with_reducible rfl)
      try simp only [List.getElem_toArray, List.getElem_cons_zero, List.getElem_cons_succ, Act.put, List.setIfInBounds_toArray, List.set_cons_zero, List.set_cons_succ]
      clear inv
      have inv := invn
      clear invn
      refine F_take (i := 5) (v := ?_) rfl (by kernel_rfl) (by kernel_rfl) (by kernel_rfl) (fun _ _ _ h => h) inv (Or.inl ⟨by rfl, ?_⟩) (by assumption) (fun invn => ?_)
      rotate_left
      · (intro w hSw; (try dsimp only at hSw); go_simp; try with_reducible rfl)
      try simp only [List.getElem_toArray, List.getElem_cons_zero, List.getElem_cons_succ, Act.put, List.setIfInBounds_toArray, List.set_cons_zero, List.set_cons_succ]
      clear inv
      have inv := invn
      clear invn
      refine F_take (i := 6) (v := ?_) rfl (by kernel_rfl) (by kernel_rfl) (by kernel_rfl) (fun _ _ _ h => h) inv (Or.inl ⟨by rfl, ?_⟩) (by assumption) (fun invn => ?_)
      rotate_left
      · (intro w hSw; (try dsimp only at hSw); go_simp; try with_reducible rfl)
      try simp only [List.getElem_toArray, List.getElem_cons_zero, List.getElem_cons_succ, Act.put, List.setIfInBounds_toArray, List.set_cons_zero, List.set_cons_succ]
      clear inv
      have inv := invn
      clear invn
      refine F_take (i := 7) (v := ?_) rfl (by kernel_rfl) (by kernel_rfl) (by kernel_rfl) (fun _ _ _ h => h) inv (Or.inl ⟨by rfl, ?_⟩) (by assumption) (fun invn => ?_)
      rotate_left
      · (intro w hSw; (try dsimp only at hSw); go_simp; try with_reducible rfl)
      try simp only [List.getElem_toArray, List.getElem_cons_zero, List.getElem_cons_succ, Act.put, List.setIfInBounds_toArray, List.set_cons_zero, List.set_cons_succ]
      clear inv
      have inv := invn
      clear invn
      refine F_take (i := 8) (v := ?_) rfl (by kernel_rfl) (by kernel_rfl) (by kernel_rfl) (fun _ _ _ h => h) inv (Or.inl ⟨by rfl, ?_⟩) (by assumption) (fun invn => ?_)
      rotate_left
      · (intro w hSw; (try dsimp only at hSw); go_simp; try with_reducible rfl)
      try simp only [List.getElem_toArray, List.getElem_cons_zero, List.getElem_cons_succ, Act.put, List.setIfInBounds_toArray, List.set_cons_zero, List.set_cons_succ]
      clear inv
      have inv := invn
      clear invn
      refine F_take (i := 9) (v := ?_) rfl (by kernel_rfl) (by kernel_rfl) (by kernel_rfl) (fun _ _ _ h => h) inv (Or.inl ⟨by rfl, ?_⟩) (by assumption) (fun invn => ?_)
      rotate_left
      · (intro w hSw; (try dsimp only at hSw); go_simp; try with_reducible rfl)
      try simp only [List.getElem_toArray, List.getElem_cons_zero, List.getElem_cons_succ, Act.put, List.setIfInBounds_toArray, List.set_cons_zero, List.set_cons_succ]
      clear inv
      have inv := invn
      clear invn
      refine F_take (i := 10) (v := ?_) rfl (by kernel_rfl) (by kernel_rfl) (by kernel_rfl) (fun _ _ _ h => h) inv (Or.inl ⟨by rfl, ?_⟩) (by assumption) (fun invn => ?_)
      rotate_left
      · (intro w hSw; (try dsimp only at hSw); go_simp; try with_reducible rfl)
      try simp only [List.getElem_toArray, List.getElem_cons_zero, List.getElem_cons_succ, Act.put, List.setIfInBounds_toArray, List.set_cons_zero, List.set_cons_succ]
      clear inv
      have inv := invn
      clear invn
      refine F_take (i := 11) (v := ?_) rfl (by kernel_rfl) (by kernel_rfl) (by kernel_rfl) (fun _ _ _ h => h) inv (Or.inl ⟨by rfl, ?_⟩) (by assumption) (fun invn => ?_)
      rotate_left
      · (intro w hSw; (try dsimp only at hSw); go_simp; try with_reducible rfl)
      try simp only [List.getElem_toArray, List.getElem_cons_zero, List.getElem_cons_succ, Act.put, List.setIfInBounds_toArray, List.set_cons_zero, List.set_cons_succ]
      clear inv
      have inv := invn
      clear invn
      refine F_one (i := 3) (by kernel_rfl) rfl rfl (by omega) inv (fun K hK => ?_)
      try simp only [List.getElem_toArray, List.getElem_cons_zero, List.getElem_cons_succ]
      go_simp
      refine (l14Back_any _ _ g a y _ (GrV.keep (w' := w3.drew) HGV.out hb4.drew) (AuV.keep (w' := w3.drew) HAV.out hb4.drew) HGO.out HAO.out hyl).mono ?_
      rintro e wD ⟨vD, rfl, hoD, hbD⟩
      obtain ⟨A5, c5, rfl, hl5, hm5, hC5⟩ := hoD.form cI_len
      obtain ⟨b5, o5, rfl, hb5, d5⟩ := hC5.int HGET.out
      refine hK.out _ _ (kB5 hbD hS) (fun hSn invn => ?_)
      try simp only [List.getElem_toArray, List.getElem_cons_zero, List.getElem_cons_succ, Act.put, List.setIfInBounds_toArray, List.set_cons_zero, List.set_cons_succ]
      clear hK K inv hS
      have inv := invn
      have hS := hSn
      clear invn hSn
      refine F_take (i := 12) (v := ?_) rfl (by kernel_rfl) (by kernel_rfl) (by kernel_rfl) (fun _ _ _ h => h) inv (Or.inl ⟨by rfl, ?_⟩) (by assumption) (fun invn => ?_)
      rotate_left
      · (intro w hSw; (try dsimp only at hSw); go_simp; try with_reducible rfl)
      try simp only [List.getElem_toArray, List.getElem_cons_zero, List.getElem_cons_succ, Act.put, List.setIfInBounds_toArray, List.set_cons_zero, List.set_cons_succ]
      clear inv
      have inv := invn
      clear invn
      refine F_one (i := 13) (by kernel_rfl) rfl rfl (by omega) inv (fun K hK => ?_)
      try simp only [List.getElem_toArray, List.getElem_cons_zero, List.getElem_cons_succ]
      go_simp
      refine hK.out _ _ (hS) (fun hSn invn => ?_)
      try simp only [List.getElem_toArray, List.getElem_cons_zero, List.getElem_cons_succ, Act.put, List.setIfInBounds_toArray, List.set_cons_zero, List.set_cons_succ]
      clear hK K inv hS
      have inv := invn
      have hS := hSn
      clear invn hSn
      refine F_last (i := 14) (by kernel_rfl) rfl rfl (by omega) (by kernel_rfl) (fun K hK => ?_)
      go_simp
      refine hK _ _ ?_
      clear hK K inv hS
      clear q1 q1' q2 q2' q5 q6
      go_wp2_with fail
      go_ret
      exact ⟨by rw [HF.out]; simp [List.getElem?_eq_getElem hixl], below_trans hb4.drew hbD⟩
end Go.Proofs.Ytajjolkpgfegfaa

/- MeetingPoints on both sides. -/
namespace Go.Proofs.Ytajjolkpgfegfaa
set_option linter.unusedVariables false
set_option linter.unusedSimpArgs false
open Go.ChangeShapes Go.WideShapes Go.ChangeAt Go.RowKit
attribute [local go_sem] ext_cell ext_frozen ext_lt ext_lt1 ext_lt2 ext_lt3 ltn2 ltn3 ltn13 lts1 lts2 lts3

def meetP (D T : List Int) (d M : Int) (i : Nat) : Bool := D.getD i 0 == d && T.getD i 0 == M
def meetL (g : Gr) (a : Au) (x y d : Int) : List Int :=
  if (decide (0 ≤ shortLen g a x y) && wi d 0 (shortLen g a x y)) = true then pickL (meetP (distFrom g a x) (distTo g a y) d (wrap64 (shortLen g a x y - d))) (distFrom g a x).length else []
theorem meetL_len (g : Gr) (a : Au) (x y d : Int) : (meetL g a x y d).length ≤ 60 := by
  unfold meetL
  split
  · exact Nat.le_trans (pick_len _ _) (distFrom_le g a x)
  · simp
theorem shortLen_ok {g : Gr} {a : Au} {x y : Int} (h : ¬ shortLen g a x y < 0) : (wi x 0 ((g.vals.length : Int) - 1) = true ∧ wi y 0 ((g.vals.length : Int) - 1) = true) ∧ grOk g = true ∧ auOk a = true := by
  unfold shortLen at h
  split at h
  · rename_i hc
    simp only [Bool.and_eq_true] at hc
    exact ⟨⟨hc.1, hc.2.1⟩, hc.2.2⟩
  · exact absurd (by decide) h

set_option maxHeartbeats 4000000 in
set_option maxRecDepth 100000 in
theorem implMeetingPoints (vg va : Value) (g : Gr) (a : Au) (x y d : Int) (w : World) (hgv : GrV 0 w.heap.size w vg g) (hav : AuV 0 w.heap.size w va a) :
    Calls Try.prog 42 #[vg, va, .int .i64 x, .int .i64 y, .int .i64 d] w fun e w' => ∃ v', e = .returned v' ∧ Own w.heap.size w'.heap.size w' 3 cI 1 v' (meetL g a x y d) ∧ Below w.heap.size w w' := by
  obtain ⟨R, hR⟩ : ∃ R, R = meetL g a x y d := ⟨_, rfl⟩
  rw [← hR]
  have hgv0 := hgv
  have hav0 := hav
  obtain ⟨A1, n1, c1, A2, n2, c2, rfl⟩ := hgv.shape
  obtain ⟨A3, n3, c3, A4, n4, c4, rfl⟩ := hav.shape
  have hb0 : Below w.heap.size w ((w.alloc (.cells #[.slice A1 n1 c1, .slice A2 n2 c2] 35)).alloc (.cells #[.int .i64 a.start, .slice A3 n3 c3, .slice A4 n4 c4] 37)) := ((Below.refl _ _).alloc (Nat.le_refl _) _).alloc (by simp) _
  have HGV := Lib.hid hgv0
  have HAV := Lib.hid hav0
  have HRR := Lib.hid hR
  clear hgv hav hgv0 hav0 hR
  go_enter Try.func42, Try.ntmps42
  go_wp2_with fail
  obtain ⟨W0, hW0⟩ : ∃ W0, W0 = ((w.alloc (.cells #[.slice A1 n1 c1, .slice A2 n2 c2] 35)).alloc (.cells #[.int .i64 a.start, .slice A3 n3 c3, .slice A4 n4 c4] 37)) := ⟨_, rfl⟩
  rw [← hW0] at hb0 ⊢
  have x0 : W0.cell? ⟨w.heap.size, 0, none⟩ = some (.slice A1 n1 c1) := by rw [hW0]; simp
  have x1 : W0.cell? ⟨w.heap.size, 1, none⟩ = some (.slice A2 n2 c2) := by rw [hW0]; simp
  have y0 : W0.cell? ⟨w.heap.size + 1, 0, none⟩ = some (.int .i64 a.start) := by rw [hW0]; simp
  have y1 : W0.cell? ⟨w.heap.size + 1, 1, none⟩ = some (.slice A3 n3 c3) := by rw [hW0]; simp
  have y2 : W0.cell? ⟨w.heap.size + 1, 2, none⟩ = some (.slice A4 n4 c4) := by rw [hW0]; simp
  have hs0 : w.heap.size + 1 + 1 = W0.heap.size := by rw [hW0]; simp
  try rw [hs0]
  have l0 : w.heap.size + 1 < W0.heap.size := by omega
  have l00 : w.heap.size < W0.heap.size := by omega
  clear hW0 hs0
  refine (implShortestLength _ _ g a x y W0 (HGV.out.keep hb0) (HAV.out.keep hb0)).mono ?_
  rintro e w1 ⟨rfl, hb1⟩
  have hb2 := below_trans hb0 hb1
  have x0 := kcell hb1 x0
  have x1 := kcell hb1 x1
  have y0 := kcell hb1 y0
  have y1 := kcell hb1 y1
  have y2 := kcell hb1 y2
  have l0 := Nat.lt_of_lt_of_le l0 hb1.size
  have l00 := Nat.lt_of_lt_of_le l00 hb1.size
  clear hb0 hb1
  have hR := HRR.out
  have hok := shortLen_ok (g := g) (a := a) (x := x) (y := y)
  clear HRR
  rw [meetL] at hR
  generalize shortLen g a x y = n at *
  by_cases hneg : n < 0
  · have k1 : decide (n < 0) = true := by simpa using hneg
    have hr0 : R = [] := by rw [hR, if_neg]; simp; omega
    subst hr0
    clear hneg hR hok
    go_wp2_with fail
    go_ret
    exact ⟨_, rfl, Own.nil _ _ _ _ _ _, hb2⟩
  · have k1 : decide (n < 0) = false := by simpa using hneg
    have hge : decide (0 ≤ n) = true := by simp; omega
    rw [hge, Bool.true_and] at hR
    obtain ⟨⟨hx, hy⟩, hgo, ha⟩ := hok hneg
    have hdl := distFrom_len (g := g) (a := a) (x := x) (by rw [hx, hgo, ha]; rfl)
    have htl := distTo_len (g := g) (a := a) (y := y) (by rw [hy, hgo, ha]; rfl)
    have hN60 := distFrom_le g a x
    have HWI := Lib.hid (fun (W : World) => within_any d 0 n W)
    clear hneg hge hok hx hy hgo ha
    cases hw : wi d 0 n with
    | false =>
      have hr0 : R = [] := by rw [hR, hw]; rfl
      subst hr0
      rw [hw] at HWI
      clear hR hw hdl htl
      go_wp2_with fail
      refine (HWI.out _).mono ?_
      rintro e w2 ⟨rfl, rfl⟩
      go_wp2_with fail
      go_ret
      exact ⟨_, rfl, Own.nil _ _ _ _ _ _, hb2⟩
    | true =>
      rw [hw] at hR HWI
      have hR2 : R = pickL (meetP (distFrom g a x) (distTo g a y) d (wrap64 (n - d))) (distFrom g a x).length := by rw [hR]; rfl
      obtain ⟨M, hM⟩ : ∃ M, M = wrap64 (n - d) := ⟨_, rfl⟩
      rw [← hM] at hR2
      have q1 : IntKind.i64.wrap (n - d) = M := by rw [hM]; exact IntWalk.i64_left _
      have q2 : wrap64 (n - d) = M := hM.symm
      have hlen : (distTo g a y).length = (distFrom g a x).length := by rw [hdl, htl]
      have HDL := Lib.hid hlen
      have HR := Lib.hid hR2
      have Q1 := Lib.hid q1
      have Q2 := Lib.hid q2
      clear hR hR2 hw hdl htl hlen hM q1 q2
      go_wp2_with fail
      refine (HWI.out _).mono ?_
      rintro e w2 ⟨rfl, rfl⟩
      go_wp2_with fail
      refine (implDistancesTo _ _ g a y _ (HGV.out.keep hb2) (HAV.out.keep hb2)).mono ?_
      rintro e w3 ⟨vt, rfl, hoT, hb3⟩
      have hb4 := below_trans hb2 hb3
      have x0 := kcell hb3 x0
      have x1 := kcell hb3 x1
      have y0 := kcell hb3 y0
      have y1 := kcell hb3 y1
      have y2 := kcell hb3 y2
      have l0 := Nat.lt_of_lt_of_le l0 hb3.size
      have l00 := Nat.lt_of_lt_of_le l00 hb3.size
      obtain ⟨A7, c7, rfl, hl7, hm7, -⟩ := hoT.form cI_len
      have HT3 := Lib.hid (hoT.sl cI_len)
      have hs2 := hb2.size
      have hs3 := hb3.size
      clear hoT hb3 hb2
      go_wp2_with fail
      obtain ⟨gO, hgO⟩ : ∃ gO, gO = w3.heap.size := ⟨_, rfl⟩
      obtain ⟨W4, hW4⟩ : ∃ W4, W4 = w3.alloc (.cells #[] 3) := ⟨_, rfl⟩
      have hrow0 : W4.ownsRow gO 3 1 (.slice (some ⟨gO, 0, none⟩) 0 0) ([] : List Int).length (([] : List Int).flatMap cI) := by
        rw [hW4, hgO]
        have h := World.ownsRow_lit (base := w3.heap.size) (e := 3) (size := 1) w3 #[] 0 (by simp) (by decide) rfl
        simpa using h
      have hb5 : Below w3.heap.size w3 W4 := by rw [hW4]; exact (Below.refl _ _).alloc (Nat.le_refl _) _
      have hs4 : gO < W4.heap.size := by rw [hW4, hgO]; simp
      rw [← hW4, ← hgO]
      have HT4 := Lib.hid (HT3.out.below hb5 (Nat.le_refl _))
      rw [← hgO] at HT4
      have hb6 := below_trans hb4 hb5
      have hwg : w.heap.size ≤ gO := by rw [hgO]; exact hb4.size
      have x0 := kcell hb5 x0
      have x1 := kcell hb5 x1
      have y0 := kcell hb5 y0
      have y1 := kcell hb5 y1
      have y2 := kcell hb5 y2
      have HROW0 := Lib.hid hrow0
      clear hrow0 hW4 hgO hb5 hb4 HT3
      refine (implDistancesFrom _ _ g a x W4 (HGV.out.keep hb6) (HAV.out.keep hb6)).mono ?_
      rintro e w5 ⟨vd, rfl, hoD, hb7⟩
      have hb2 := below_trans hb6 hb7
      have hs5 := hb7.size
      have HROW1 := Lib.hid (ownsRow_below HROW0.out hb7 (Nat.le_refl _))
      have HT := Lib.hid (HT4.out.below hb7 (by omega))
      have HC6 := Lib.hid (hoD.sl cI_len)
      obtain ⟨A6, c6, rfl, hl6, hm6, -⟩ := hoD.form cI_len
      clear hoD hb7 hb6 HROW0 x0 x1 y0 y1 y2 HT4
      obtain ⟨P, hP⟩ : ∃ P, P = meetP (distFrom g a x) (distTo g a y) d M := ⟨_, rfl⟩
      have hPi : ∀ i, P i = ((distFrom g a x).getD i 0 == d && (distTo g a y).getD i 0 == M) := fun i => by rw [hP]; rfl
      rw [← hP] at HR
      generalize distFrom g a x = D at *
      generalize distTo g a y = T at *
      have hdl := HDL.out
      rw [hdl] at hl7 ⊢
      obtain ⟨N, hN⟩ : ∃ N, N = D.length := ⟨_, rfl⟩
      rw [← hN] at HR hl6 hl7 hN60 hdl ⊢
      have HP := Lib.hid hPi
      have HN := Lib.hid hN
      have HTL := Lib.hid hdl
      clear hP hPi hN hdl HDL
      go_wp2_with fail
      go_loopw [13, 39] (fun oo ii wr => ∃ i : Nat, i ≤ N ∧ ii = .int .i64 (i : Int) ∧ wr.ownsRow gO 3 1 oo (pickL P i).length ((pickL P i).flatMap cI) ∧ Only gO (gO + 1) w5 wr ∧ (∀ b, oo.ownBlock = some b → b = gO ∨ w5.heap.size ≤ b)) (fun _ ii _ => N - (intOf ii).toNat)
      case atStart => exact ⟨0, Nat.zero_le _, rfl, HROW1.out, Only.refl _ _ _, fun b hb => by cases hb; exact .inl rfl⟩
      case round =>
        clear HROW1
        obtain ⟨i, hi, rfl, hrow, hon, hob⟩ := hrel
        have hsz := hon.size
        have hbw := hb2.trans (hon.below (B := w.heap.size) (by omega) hb2.size)
        have HBW := Lib.hid hbw
        have HROW := Lib.hid hrow
        have HOB := Lib.hid hob
        have HON := Lib.hid hon
        have hfl := pick_len P i
        clear hrow hob hbw hon
        by_cases hlt : i < N
        · have hdi := getD_of (D := D) (k := i) (by have := HN.out; omega)
          have hti := getD_of (D := T) (k := i) (by have := HTL.out; omega)
          obtain ⟨b6, o6, rfl, hb60, hb6, d6⟩ := HC6.out.intI hdi
          obtain ⟨b7, o7, rfl, -, hb7, d7⟩ := HT.out.intI hti
          have d6 := ocell HON.out d6 hb6 (.inr (by omega))
          have d7 := ocell HON.out d7 (by omega) (.inl hb7)
          have hb6w := Nat.lt_of_lt_of_le hb6 hsz
          have hb7w : b7 < wr.heap.size := by omega
          have hii : (i : Int) < (N : Int) := by omega
          have HPI := Lib.hid (HP.out i)
          have HY := Lib.hid (fun h => pick_yes (p := P) (k := i) h)
          have HNo := Lib.hid (fun h => pick_no (p := P) (k := i) h)
          clear hdi hti
          generalize D.getD i 0 = dd at *
          generalize T.getD i 0 = tt at *
          generalize pickL P i = L at *
          have q1 := Q1.out
          have q2 := Q2.out
          cases hd : (dd == d) with
          | true =>
            rw [hd, Bool.true_and] at HPI
            cases ht : (tt == M) with
            | true =>
              have HM := Lib.hid (HY.out (by rw [HPI.out, ht]))
              go_wp2_with (at_builtin; (refine wpList_append1 cI elInt rfl _ _ rfl gO _ L (i : Int) _ 1 _ (by rfl) HROW.out (by rfl) rfl rfl rfl (cI_one _) (by omega) (by omega) (by omega) ?_); intro v' w4 hrow' hb4 hat4 hgr4)
              go_roundw
              case rel =>
                refine ⟨i + 1, by omega, by go_num, by rw [HM.out]; exact hrow', (HON.out.alloc _).grown hgr4 (fun b hb => by have := HOB.out b hb; omega), fun b hb => ?_⟩
                rcases hat4 with h1 | ⟨g1, h1, h2⟩
                · exact HOB.out b (by rw [← h1]; exact hb)
                · rw [h1] at hb
                  injection hb with hb
                  exact .inr (by omega)
              case measure => simp [intOf]; omega
            | false =>
              have HM := Lib.hid (HNo.out (by rw [HPI.out, ht]))
              go_wp2_with fail
              go_roundw
              case rel => exact ⟨i + 1, by omega, by go_num, by rw [HM.out]; exact HROW.out, HON.out, HOB.out⟩
              case measure => simp [intOf]; omega
          | false =>
            have HM := Lib.hid (HNo.out (by rw [HPI.out, hd, Bool.false_and]))
            go_wp2_with fail
            go_roundw
            case rel => exact ⟨i + 1, by omega, by go_num, by rw [HM.out]; exact HROW.out, HON.out, HOB.out⟩
            case measure => simp [intOf]; omega
        · obtain rfl : i = N := by omega
          have hown := Own.of_row (xs := pickL P i) HROW.out rfl rfl
          rw [← HR.out] at hown
          obtain ⟨A9, n9, c9, rfl⟩ := hown.shape
          have HO := Lib.hid (hown.mono (show w.heap.size ≤ gO by omega) (Nat.le_refl _))
          clear hown
          go_wp2_with fail
          go_ret
          exact ⟨_, rfl, HO.out, HBW.out⟩
set_option maxHeartbeats 4000000 in
set_option maxRecDepth 100000 in
theorem specMeetingPoints (vg va : Value) (g : Gr) (a : Au) (x y d : Int) (w : World) (hgv : GrV 0 w.heap.size w vg g) (hav : AuV 0 w.heap.size w va a) :
    Calls Try.prog 41 #[vg, va, .int .i64 x, .int .i64 y, .int .i64 d] w fun e w' => ∃ v', e = .returned v' ∧ Own w.heap.size w'.heap.size w' 3 cI 1 v' (meetL g a x y d) ∧ Below w.heap.size w w' := by
  obtain ⟨R, hR⟩ : ∃ R, R = meetL g a x y d := ⟨_, rfl⟩
  rw [← hR]
  have HRR := Lib.hid hR
  clear hR
  have hgv0 := hgv
  have hav0 := hav
  obtain ⟨A1, c1, A2, c2, rfl, hl1, hm1, hl2, hm2, hC1, -⟩ := hgv.form
  obtain ⟨ac, nx, rfl, hac, hnx⟩ := hav
  obtain ⟨A3, c3, rfl, hl3, hm3, -⟩ := SlE.form hac
  obtain ⟨A4, n4, c4, rfl⟩ := hnx.shape
  have hb0 : Below w.heap.size w ((w.alloc (.cells #[.slice A1 g.vals.length c1, .slice A2 g.edges.length c2] 35)).alloc (.cells #[.int .i64 a.start, .slice A3 a.accept.length c3, .slice A4 n4 c4] 37)) := ((Below.refl _ _).alloc (Nat.le_refl _) _).alloc (by simp) _
  have HGV := Lib.hid hgv0
  have HAV := Lib.hid hav0
  have HC1 := Lib.hid hC1
  clear hgv hac hnx hgv0 hav0 hC1
  go_enter Try.func41, Try.ntmps41
  go_wp2_with fail
  obtain ⟨W0, hW0⟩ : ∃ W0, W0 = ((w.alloc (.cells #[.slice A1 g.vals.length c1, .slice A2 g.edges.length c2] 35)).alloc (.cells #[.int .i64 a.start, .slice A3 a.accept.length c3, .slice A4 n4 c4] 37)).alloc (.cells #[] 3) := ⟨_, rfl⟩
  have hb0 : Below w.heap.size w W0 := by rw [hW0]; exact hb0.alloc hb0.size _
  rw [← hW0]
  have bx : Blk W0 w.heap.size 35 #[.slice A1 g.vals.length c1, .slice A2 g.edges.length c2] := by rw [hW0]; exact ((Blk.new w _ _ w.heap.size rfl).alloc _).alloc _
  have by_ : Blk W0 (w.heap.size + 1) 37 #[.int .i64 a.start, .slice A3 a.accept.length c3, .slice A4 n4 c4] := by rw [hW0]; exact (Blk.new (w.alloc _) _ _ (w.heap.size + 1) (by simp)).alloc _
  have hrow0 : W0.ownsRow (w.heap.size + 1 + 1) 3 1 (.slice (some ⟨w.heap.size + 1 + 1, 0, none⟩) 0 0) ([] : List Int).length (([] : List Int).flatMap cI) := by
    rw [hW0]
    have h := World.ownsRow_lit (base := w.heap.size + 1 + 1) (e := 3) (size := 1) ((w.alloc (.cells #[.slice A1 g.vals.length c1, .slice A2 g.edges.length c2] 35)).alloc (.cells #[.int .i64 a.start, .slice A3 a.accept.length c3, .slice A4 n4 c4] 37)) #[] 0 (by simp) (by decide) rfl
    simpa using h
  have x0 : W0.cell? ⟨w.heap.size, 0, none⟩ = some (.slice A1 g.vals.length c1) := bx.cell 0
  have x1 : W0.cell? ⟨w.heap.size, 1, none⟩ = some (.slice A2 g.edges.length c2) := bx.cell 1
  have y0 : W0.cell? ⟨w.heap.size + 1, 0, none⟩ = some (.int .i64 a.start) := by_.cell 0
  have y1 : W0.cell? ⟨w.heap.size + 1, 1, none⟩ = some (.slice A3 a.accept.length c3) := by_.cell 1
  have y2 : W0.cell? ⟨w.heap.size + 1, 2, none⟩ = some (.slice A4 n4 c4) := by_.cell 2
  have l0 := by_.lt
  have l00 := bx.lt
  have HROW0 := Lib.hid hrow0
  have hsW : W0.heap.size = w.heap.size + 1 + 1 + 1 := by rw [hW0]; simp
  have hsW' : w.heap.size + 1 + 1 < W0.heap.size := by omega
  have HSW := Lib.hid hsW
  clear hW0 bx by_ hrow0 hsW
  refine (specShortestLength _ _ g a x y W0 (HGV.out.keep hb0) (HAV.out.keep hb0)).mono ?_
  rintro e w1 ⟨rfl, hb1⟩
  have hb2 := below_trans hb0 hb1
  have x0 := kcell hb1 x0
  have x1 := kcell hb1 x1
  have y0 := kcell hb1 y0
  have y1 := kcell hb1 y1
  have y2 := kcell hb1 y2
  have l0 := Nat.lt_of_lt_of_le l0 hb1.size
  have l00 := Nat.lt_of_lt_of_le l00 hb1.size
  have HROW1 := Lib.hid (ownsRow_below HROW0.out hb1 (Nat.le_refl _))
  have hs1 := hb1.size
  have hs0 := hb0.size
  clear hb0 hb1 HROW0
  have hR := HRR.out
  have hok := shortLen_ok (g := g) (a := a) (x := x) (y := y)
  clear HRR
  rw [meetL] at hR
  generalize shortLen g a x y = n at *
  by_cases hneg : n < 0
  · have k1 : decide (n < 0) = true := by simpa using hneg
    have hr0 : R = [] := by rw [hR, if_neg]; simp; omega
    subst hr0
    clear hneg hR hok
    go_wp2_with fail
    go_ret
    exact ⟨_, rfl, (Own.of_row (xs := ([] : List Int)) HROW1.out rfl rfl).mono (by omega) (Nat.le_refl _), hb2⟩
  · have k1 : decide (n < 0) = false := by simpa using hneg
    have hge : decide (0 ≤ n) = true := by simp; omega
    rw [hge, Bool.true_and] at hR
    obtain ⟨⟨hx, hy⟩, hgo, ha⟩ := hok hneg
    have hdl := distFrom_len (g := g) (a := a) (x := x) (by rw [hx, hgo, ha]; rfl)
    have htl := distTo_len (g := g) (a := a) (y := y) (by rw [hy, hgo, ha]; rfl)
    have hN60 := distFrom_le g a x
    have HWI := Lib.hid (fun (W : World) => l1In_any d 0 n W)
    rw [wi_iff] at hx hy
    obtain ⟨x, rfl⟩ := Int.eq_ofNat_of_zero_le hx.1
    obtain ⟨y, rfl⟩ := Int.eq_ofNat_of_zero_le hy.1
    have hxl : x < g.vals.length := by omega
    have hyl : y < g.vals.length := by omega
    have HLF := Lib.hid (fun (W : World) (hW : Below w.heap.size w W) => l14Ranks_any _ _ g a x W (HGV.out.keep hW) (HAV.out.keep hW) hgo ha hxl)
    have HLT := Lib.hid (fun (W : World) (hW : Below w.heap.size w W) => l14Back_any _ _ g a y W (HGV.out.keep hW) (HAV.out.keep hW) hgo ha hyl)
    clear hneg hge hok hx hy hgo ha hxl hyl
    cases hw : wi d 0 n with
    | false =>
      have hr0 : R = [] := by rw [hR, hw]; rfl
      subst hr0
      rw [hw] at HWI
      clear hR hw hdl htl
      go_wp2_with fail
      refine (HWI.out _).mono ?_
      rintro e w2 ⟨rfl, rfl⟩
      go_wp2_with fail
      go_ret
      exact ⟨_, rfl, (Own.of_row (xs := ([] : List Int)) HROW1.out rfl rfl).mono (by omega) (Nat.le_refl _), hb2⟩
    | true =>
      rw [hw] at hR HWI
      have hR2 : R = pickL (meetP (distFrom g a (x : Int)) (distTo g a (y : Int)) d (wrap64 (n - d))) (distFrom g a (x : Int)).length := by rw [hR]; rfl
      obtain ⟨M, hM⟩ : ∃ M, M = wrap64 (n - d) := ⟨_, rfl⟩
      rw [← hM] at hR2
      have q1 : IntKind.i64.wrap (n - d) = M := by rw [hM]; exact IntWalk.i64_left _
      have q2 : wrap64 (n - d) = M := hM.symm
      have hlen : (distTo g a (y : Int)).length = (distFrom g a (x : Int)).length := by rw [hdl, htl]
      have HDL := Lib.hid hlen
      have HR := Lib.hid hR2
      have Q1 := Lib.hid q1
      have Q2 := Lib.hid q2
      clear hR hR2 hw hdl htl hlen hM q1 q2
      go_wp2_with fail
      refine (HWI.out _).mono ?_
      rintro e w2 ⟨rfl, rfl⟩
      go_wp2_with fail
      refine (HLF.out _ hb2).mono ?_
      rintro e w3 ⟨vd, rfl, hoD, hb3⟩
      have hb4 := below_trans hb2 hb3
      have x0 := kcell hb3 x0
      have x1 := kcell hb3 x1
      have y0 := kcell hb3 y0
      have y1 := kcell hb3 y1
      have y2 := kcell hb3 y2
      have l0 := Nat.lt_of_lt_of_le l0 hb3.size
      have l00 := Nat.lt_of_lt_of_le l00 hb3.size
      have HROW1 := Lib.hid (ownsRow_below HROW1.out hb3 (Nat.le_refl _))
      obtain ⟨A6, c6, rfl, hl6, hm6, -⟩ := hoD.form cI_len
      have HD3 := Lib.hid (hoD.sl cI_len)
      have hs2 := hb2.size
      have hs3 := hb3.size
      clear hoD hb2
      go_wp2_with fail
      refine (HLT.out _ hb4).mono ?_
      rintro e w5 ⟨vt, rfl, hoT, hb5⟩
      have hb2 := below_trans hb4 hb5
      have hs5 := hb5.size
      have HROW1 := Lib.hid (ownsRow_below HROW1.out hb5 (Nat.le_refl _))
      obtain ⟨A7, c7, rfl, hl7, hm7, -⟩ := hoT.form cI_len
      have HT := Lib.hid (hoT.sl cI_len)
      have HC6 := Lib.hid (HD3.out.below hb5 (Nat.le_refl _))
      obtain ⟨gO, hgO⟩ : ∃ gO, gO = w.heap.size + 1 + 1 := ⟨_, rfl⟩
      rw [← hgO] at HROW1 hsW' ⊢
      have hgw : w.heap.size + 1 < gO := by omega
      clear hoT hb5 hb4 hb3 HD3 x0 x1 y0 y1 y2 hgO HSW HLF HLT l0 l00
      obtain ⟨P, hP⟩ : ∃ P, P = meetP (distFrom g a (x : Int)) (distTo g a (y : Int)) d M := ⟨_, rfl⟩
      have hPi : ∀ i, P i = ((distFrom g a (x : Int)).getD i 0 == d && (distTo g a (y : Int)).getD i 0 == M) := fun i => by rw [hP]; rfl
      rw [← hP] at HR
      generalize distFrom g a (x : Int) = D at *
      generalize distTo g a (y : Int) = T at *
      have hdl := HDL.out
      rw [hdl] at hl7 ⊢
      obtain ⟨N, hN⟩ : ∃ N, N = D.length := ⟨_, rfl⟩
      rw [← hN] at HR hl6 hl7 hN60 hdl ⊢
      have HP := Lib.hid hPi
      have HN := Lib.hid hN
      have HTL := Lib.hid hdl
      clear hP hPi hN hdl HDL
      go_wp2_with fail
      go_loopw [11, 15] (fun oo ii wr => ∃ i : Nat, i ≤ N ∧ ii = .int .i64 (i : Int) ∧ wr.ownsRow gO 3 1 oo (pickL P i).length ((pickL P i).flatMap cI) ∧ Only gO (gO + 1) w5 wr ∧ (∀ b, oo.ownBlock = some b → b = gO ∨ w5.heap.size ≤ b)) (fun _ ii _ => N - (intOf ii).toNat)
      case atStart => exact ⟨0, Nat.zero_le _, rfl, HROW1.out, Only.refl _ _ _, fun b hb => by cases hb; exact .inl rfl⟩
      case round =>
        clear HROW1
        obtain ⟨i, hi, rfl, hrow, hon, hob⟩ := hrel
        have hsz := hon.size
        have hbw := hb2.trans (hon.below (B := w.heap.size) (by omega) hb2.size)
        have HBW := Lib.hid hbw
        have HROW := Lib.hid hrow
        have HOB := Lib.hid hob
        have HON := Lib.hid hon
        have hfl := pick_len P i
        clear hrow hob hbw hon
        by_cases hlt : i < N
        · have hdi := getD_of (D := D) (k := i) (by have := HN.out; omega)
          have hti := getD_of (D := T) (k := i) (by have := HTL.out; omega)
          obtain ⟨b6, o6, rfl, hb60, hb6, d6⟩ := HC6.out.intI hdi
          obtain ⟨b7, o7, rfl, hb70, hb7, d7⟩ := HT.out.intI hti
          have d6 := ocell HON.out d6 (by omega) (.inr (by omega))
          have d7 := ocell HON.out d7 (by omega) (.inr (by omega))
          have hb6w : b6 < wr.heap.size := by omega
          have hb7w : b7 < wr.heap.size := by omega
          have hii : (i : Int) < (N : Int) := by omega
          have HPI := Lib.hid (HP.out i)
          have HY := Lib.hid (fun h => pick_yes (p := P) (k := i) h)
          have HNo := Lib.hid (fun h => pick_no (p := P) (k := i) h)
          clear hdi hti
          generalize D.getD i 0 = dd at *
          generalize T.getD i 0 = tt at *
          generalize pickL P i = L at *
          have q1 := Q1.out
          have q2 := Q2.out
          cases hd : (dd == d) with
          | true =>
            rw [hd, Bool.true_and] at HPI
            cases ht : (tt == M) with
            | true =>
              have HM := Lib.hid (HY.out (by rw [HPI.out, ht]))
              go_wp2_with (at_builtin; (refine wpList_append1 cI elInt rfl _ _ rfl gO _ L (i : Int) _ 1 _ (by rfl) HROW.out (by rfl) rfl rfl rfl (cI_one _) (by omega) (by omega) (by omega) ?_); intro v' w4 hrow' hb4 hat4 hgr4)
              go_roundw
              case rel =>
                refine ⟨i + 1, by omega, by go_num, by rw [HM.out]; exact hrow', (HON.out.alloc _).grown hgr4 (fun b hb => by have := HOB.out b hb; omega), fun b hb => ?_⟩
                rcases hat4 with h1 | ⟨g1, h1, h2⟩
                · exact HOB.out b (by rw [← h1]; exact hb)
                · rw [h1] at hb
                  injection hb with hb
                  exact .inr (by omega)
              case measure => simp [intOf]; omega
            | false =>
              have HM := Lib.hid (HNo.out (by rw [HPI.out, ht]))
              go_wp2_with fail
              go_roundw
              case rel => exact ⟨i + 1, by omega, by go_num, by rw [HM.out]; exact HROW.out, HON.out, HOB.out⟩
              case measure => simp [intOf]; omega
          | false =>
            have HM := Lib.hid (HNo.out (by rw [HPI.out, hd, Bool.false_and]))
            go_wp2_with fail
            go_roundw
            case rel => exact ⟨i + 1, by omega, by go_num, by rw [HM.out]; exact HROW.out, HON.out, HOB.out⟩
            case measure => simp [intOf]; omega
        · obtain rfl : i = N := by omega
          have hown := Own.of_row (xs := pickL P i) HROW.out rfl rfl
          rw [← HR.out] at hown
          obtain ⟨A9, n9, c9, rfl⟩ := hown.shape
          have HO := Lib.hid (hown.mono (show w.heap.size ≤ gO by omega) (Nat.le_refl _))
          clear hown
          go_wp2_with fail
          go_ret
          exact ⟨_, rfl, HO.out, HBW.out⟩
end Go.Proofs.Ytajjolkpgfegfaa

