/- Parts of the proof, joined into one text: ShortI, BackM, BackS, RankS, AnsM, Ctr. -/
import Derived.Test.YtlhpcknpjdeebaaPartGMACDPJL
import Derived.Test.YtlhpcknpjdeebaaPartGNMHAPIG
import Derived.Test.YtlhpcknpjdeebaaPartHCBNMMEI
import Derived.Deep.LoopGhost
import Derived.Test.YtlhpcknpjdeebaaPartLAIGJDJG
import Derived.Test.YtlhpcknpjdeebaaPartHLLMONOC
/- The program's ShortestLength. -/
namespace Go.Proofs.Ytlhpcknpjdeebaa
set_option linter.unusedVariables false
set_option linter.unusedSimpArgs false
open Go.ChangeShapes Go.WideShapes Go.ChangeAt Go.RowKit
attribute [local go_sem] ext_cell ext_frozen ext_lt ext_lt1 ext_lt2 ext_lt3 ltn2 ltn3 ltn13 lts1 lts2 lts3

set_option maxHeartbeats 4000000 in
set_option maxRecDepth 100000 in
theorem implShortestLength (vg va : Value) (g : Gr) (a : Au) (x y : Int) (w : World) (hgv : GrV 0 w.heap.size w vg g) (hav : AuV 0 w.heap.size w va a) :
    Calls Try.prog 43 #[vg, va, .int .i64 x, .int .i64 y] w fun e w' => e = .returned (.int .i64 (shortLen g a x y)) ∧ Below w.heap.size w w' := by
  have hgv0 := hgv
  have hav0 := hav
  obtain ⟨A1, n1, c1, A2, n2, c2, rfl⟩ := hgv.shape
  obtain ⟨ac, nx, rfl, hac, hnx⟩ := hav
  obtain ⟨A3, c3, rfl, -, -, -⟩ := SlE.form hac
  obtain ⟨A4, n4, c4, rfl⟩ := hnx.shape
  have hb0 : Below w.heap.size w ((w.alloc (.cells #[.slice A1 n1 c1, .slice A2 n2 c2] 39)).alloc (.cells #[.int .i64 a.start, .slice A3 a.accept.length c3, .slice A4 n4 c4] 41)) := ((Below.refl _ _).alloc (Nat.le_refl _) _).alloc (by simp) _
  have hb1 := hb0.alloc hb0.size (.cells #[.int .i64 x, .int .i64 y] 3)
  have hst : SlE (((w.alloc (.cells #[.slice A1 n1 c1, .slice A2 n2 c2] 39)).alloc (.cells #[.int .i64 a.start, .slice A3 a.accept.length c3, .slice A4 n4 c4] 41)).alloc (.cells #[.int .i64 x, .int .i64 y] 3)) cI 1 (.slice (some ⟨w.heap.size + 1 + 1, 0, none⟩) 2 2) [x, y] := by
    have h := lit_sl ((w.alloc (.cells #[.slice A1 n1 c1, .slice A2 n2 c2] 39)).alloc (.cells #[.int .i64 a.start, .slice A3 a.accept.length c3, .slice A4 n4 c4] 41)) 3 [x, y] (by unfold maxLen; simp)
    simpa using h
  have hbo := bothOk_any _ _ _ g a [x, y] _ (hgv0.keep hb1) (hav0.keep hb1) hst
  have HBO := Lib.hid hbo
  have HGV := Lib.hid hgv0
  have HAV := Lib.hid hav0
  clear hgv hac hnx hgv0 hav0 hbo hst
  cases hk : ([x, y].all (fun s => wi s 0 ((g.vals.length : Int) - 1)) && (grOk g && auOk a)) with
  | false =>
    rw [hk] at HBO
    have hfin : shortLen g a x y = -1 := by unfold shortLen; rw [if_neg]; simpa [Bool.and_assoc] using hk
    have HF := Lib.hid hfin
    clear hk hfin
    go_enter Try.func43, Try.ntmps43
    go_wp2_with fail
    refine HBO.out.mono ?_
    rintro e w1 ⟨rfl, hb2⟩
    go_wp2_with fail
    go_ret
    exact ⟨by rw [HF.out]; rfl, below_trans hb1 hb2⟩
  | true =>
    rw [hk] at HBO
    simp only [List.all_cons, List.all_nil, Bool.and_true, Bool.and_eq_true, wi_iff] at hk
    obtain ⟨⟨⟨hx0, hx1⟩, hy0, hy1⟩, hgo, hao⟩ := hk
    have hdl := distTo_len (g := g) (a := a) (y := y) (by simp [wi_iff, hy0, hy1, hgo, hao])
    obtain ⟨x, rfl⟩ := Int.eq_ofNat_of_zero_le hx0
    have hst0 := (auOk_iff.1 hao).2.1
    have hm12 := (auOk_iff.1 hao).1.2
    have hn5 := (grOk_iff.1 hgo).n5
    obtain ⟨xn, hxn⟩ : ∃ xn, xn = x * a.accept.length := ⟨_, rfl⟩
    have hxn2 : xn + a.accept.length ≤ g.vals.length * a.accept.length := by rw [hxn]; have := Nat.mul_le_mul_right a.accept.length (show x + 1 ≤ g.vals.length by omega); rw [Nat.succ_mul] at this; exact this
    have hN60 : g.vals.length * a.accept.length ≤ 60 := by have := Nat.mul_le_mul hn5 hm12; omega
    rw [← hdl] at hxn2 hN60
    obtain ⟨ix, hix⟩ : ∃ ix : Nat, (ix : Int) = (xn : Int) + a.start := ⟨(xn + a.start.toNat), by omega⟩
    have hixl : ix < (distTo g a y).length := by omega
    have hfin : shortLen g a x y = (distTo g a y).getD ix 0 := by
      unfold shortLen
      rw [if_pos (by simp [wi_iff, hx0, hx1, hy0, hy1, hgo, hao]), Int.toNat_natCast, ← hxn]
      congr 1
      omega
    have hget := getD_of hixl
    have q1 : IntKind.i64.wrap ((x : Int) * (a.accept.length : Int)) = (xn : Int) := by rw [IntWalk.i64_in _ (by rw [← Int.natCast_mul, ← hxn]; omega), hxn, Int.natCast_mul]
    have q1' : (x : Int) * (a.accept.length : Int) = (xn : Int) := by rw [hxn, Int.natCast_mul]
    have q2 : IntKind.i64.wrap ((xn : Int) + a.start) = (ix : Int) := by rw [← hix]; exact IntWalk.i64_in _ (by omega)
    have q2' : (xn : Int) + a.start = (ix : Int) := hix.symm
    have q5 : IntKind.i64.wrap (xn : Int) = (xn : Int) := IntWalk.i64_in _ (by omega)
    have q6 : IntKind.i64.wrap (ix : Int) = (ix : Int) := IntWalk.i64_in _ (by omega)
    have hixi : (ix : Int) < ((distTo g a y).length : Int) := by omega
    have hix0 : (0 : Int) ≤ (ix : Int) := by omega
    have HF := Lib.hid hfin
    have HGET := Lib.hid hget
    have Q1 := Lib.hid q1
    have Q1' := Lib.hid q1'
    have Q2 := Lib.hid q2
    have Q2' := Lib.hid q2'
    have Q5 := Lib.hid q5
    have Q6 := Lib.hid q6
    clear hget hfin hxn hix hgo hao hdl hx0 hx1 hy0 hy1 hst0 q1 q1' q2 q2' q5 q6
    go_enter Try.func43, Try.ntmps43
    go_wp2_with fail
    refine HBO.out.mono ?_
    rintro e w1 ⟨rfl, hb2⟩
    have hb3 := below_trans hb1 hb2
    have b0 := (((Blk.new w 39 #[.slice A1 n1 c1, .slice A2 n2 c2] w.heap.size rfl).alloc (.cells #[.int .i64 a.start, .slice A3 a.accept.length c3, .slice A4 n4 c4] 41)).alloc (.cells #[.int .i64 (x : Int), .int .i64 y] 3)).keep hb2
    have b1 := ((Blk.new (w.alloc (.cells #[.slice A1 n1 c1, .slice A2 n2 c2] 39)) 41 #[.int .i64 a.start, .slice A3 a.accept.length c3, .slice A4 n4 c4] (w.heap.size + 1) (by simp)).alloc (.cells #[.int .i64 (x : Int), .int .i64 y] 3)).keep hb2
    have x0 : w1.cell? ⟨w.heap.size, 0, none⟩ = some (.slice A1 n1 c1) := b0.cell 0
    have x1 : w1.cell? ⟨w.heap.size, 1, none⟩ = some (.slice A2 n2 c2) := b0.cell 1
    have y0 : w1.cell? ⟨w.heap.size + 1, 0, none⟩ = some (.int .i64 a.start) := b1.cell 0
    have y1 : w1.cell? ⟨w.heap.size + 1, 1, none⟩ = some (.slice A3 a.accept.length c3) := b1.cell 1
    have y2 : w1.cell? ⟨w.heap.size + 1, 2, none⟩ = some (.slice A4 n4 c4) := b1.cell 2
    clear hb0 hb1 hb2 b0 b1 HBO
    go_wp2_with fail
    have q1 := Q1.out
    have q1' := Q1'.out
    have q2 := Q2.out
    have q2' := Q2'.out
    have q5 := Q5.out
    have q6 := Q6.out
    refine F_start 14 (fun w' => w'.cell? ⟨w.heap.size, 0, none⟩ = some (.slice A1 n1 c1) ∧ w'.cell? ⟨w.heap.size, 1, none⟩ = some (.slice A2 n2 c2) ∧ w'.cell? ⟨w.heap.size + 1, 0, none⟩ = some (.int .i64 a.start) ∧ w'.cell? ⟨w.heap.size + 1, 1, none⟩ = some (.slice A3 a.accept.length c3) ∧ w'.cell? ⟨w.heap.size + 1, 2, none⟩ = some (.slice A4 n4 c4)) (by kernel_rfl) (by exact ⟨x0, x1, y0, y1, y2⟩) (fun hS inv => ?_)
    refine F_take (i := 0) (v := ?_) rfl (by kernel_rfl) (by kernel_rfl) (by kernel_rfl) (fun _ _ _ h => h) inv (Or.inl ⟨by rfl, ?_⟩) (by assumption) (fun invn => ?_)
    rotate_left
    · (intro w hSw; (try dsimp only at hSw); go_simp; try with_reducible rfl)
    try simp only [List.getElem_toArray, List.getElem_cons_zero, List.getElem_cons_succ, Act.put, List.setIfInBounds_toArray, List.set_cons_zero, List.set_cons_succ]
    clear inv
    have inv := invn
    clear invn
    refine F_take (i := 1) (v := ?_) rfl (by kernel_rfl) (by kernel_rfl) (by kernel_rfl) (fun _ _ _ h => h) inv (Or.inl ⟨by rfl, ?_⟩) (by assumption) (fun invn => ?_)
    rotate_left
    · (intro w hSw; (try dsimp only at hSw); go_simp; try with_reducible rfl)
    try simp only [List.getElem_toArray, List.getElem_cons_zero, List.getElem_cons_succ, Act.put, List.setIfInBounds_toArray, List.set_cons_zero, List.set_cons_succ]
    clear inv
    have inv := invn
    clear invn
    refine F_take (i := 2) (v := ?_) rfl (by kernel_rfl) (by kernel_rfl) (by kernel_rfl) (fun _ _ _ h => h) inv (Or.inl ⟨by rfl, ?_⟩) (by assumption) (fun invn => ?_)
    rotate_left
    · (intro w hSw; (try dsimp only at hSw); go_simp; try with_reducible rfl)
    try simp only [List.getElem_toArray, List.getElem_cons_zero, List.getElem_cons_succ, Act.put, List.setIfInBounds_toArray, List.set_cons_zero, List.set_cons_succ]
    clear inv
    have inv := invn
    clear invn
    refine F_take (i := 4) (v := ?_) rfl (by kernel_rfl) (by kernel_rfl) (by kernel_rfl) (fun _ _ _ h => h) inv (Or.inl ⟨by rfl, ?_⟩) (by assumption) (fun invn => ?_)
    rotate_left
    · (intro w hSw; (try dsimp only at hSw); go_simp; try with_reducible rfl)
    try simp only [List.getElem_toArray, List.getElem_cons_zero, List.getElem_cons_succ, Act.put, List.setIfInBounds_toArray, List.set_cons_zero, List.set_cons_succ]
    clear inv
    have inv := invn
    clear invn
    refine F_take (i := 5) (v := ?_) rfl (by kernel_rfl) (by kernel_rfl) (by kernel_rfl) (fun _ _ _ h => h) inv (Or.inl ⟨by rfl, ?_⟩) (by assumption) (fun invn => ?_)
    rotate_left
    · (intro w hSw; (try dsimp only at hSw); go_simp; try with_reducible rfl)
    try simp only [List.getElem_toArray, List.getElem_cons_zero, List.getElem_cons_succ, Act.put, List.setIfInBounds_toArray, List.set_cons_zero, List.set_cons_succ]
    clear inv
    have inv := invn
    clear invn
    refine F_take (i := 6) (v := ?_) rfl (by kernel_rfl) (by kernel_rfl) (by kernel_rfl) (fun _ _ _ h => h) inv (Or.inl ⟨by rfl, ?_⟩) (by assumption) (fun invn => ?_)
    rotate_left
    · (intro w hSw; (try dsimp only at hSw); go_simp; try with_reducible rfl)
    try simp only [List.getElem_toArray, List.getElem_cons_zero, List.getElem_cons_succ, Act.put, List.setIfInBounds_toArray, List.set_cons_zero, List.set_cons_succ]
    clear inv
    have inv := invn
    clear invn
    refine F_take (i := 7) (v := ?_) rfl (by kernel_rfl) (by kernel_rfl) (by kernel_rfl) (fun _ _ _ h => h) inv (Or.inl ⟨by rfl, ?_⟩) (by assumption) (fun invn => ?_)
    rotate_left
    · (intro w hSw; (try dsimp only at hSw); go_simp; try with_reducible rfl)
    try simp only [List.getElem_toArray, List.getElem_cons_zero, List.getElem_cons_succ, Act.put, List.setIfInBounds_toArray, List.set_cons_zero, List.set_cons_succ]
    clear inv
    have inv := invn
    clear invn
    refine F_take (i := 8) (v := ?_) rfl (by kernel_rfl) (by kernel_rfl) (by kernel_rfl) (fun _ _ _ h => h) inv (Or.inl ⟨by rfl, ?_⟩) (by assumption) (fun invn => ?_)
    rotate_left
    · (intro w hSw; (try dsimp only at hSw); go_simp; try with_reducible rfl)
    try simp only [List.getElem_toArray, List.getElem_cons_zero, List.getElem_cons_succ, Act.put, List.setIfInBounds_toArray, List.set_cons_zero, List.set_cons_succ]
    clear inv
    have inv := invn
    clear invn
    refine F_take (i := 9) (v := ?_) rfl (by kernel_rfl) (by kernel_rfl) (by kernel_rfl) (fun _ _ _ h => h) inv (Or.inl ⟨by rfl, ?_⟩) (by assumption) (fun invn => ?_)
    rotate_left
    · (intro w hSw; (try dsimp only at hSw); go_simp; try with_reducible rfl)
    try simp only [List.getElem_toArray, List.getElem_cons_zero, List.getElem_cons_succ, Act.put, List.setIfInBounds_toArray, List.set_cons_zero, List.set_cons_succ]
    clear inv
    have inv := invn
    clear invn
    refine F_take (i := 10) (v := ?_) rfl (by kernel_rfl) (by kernel_rfl) (by kernel_rfl) (fun _ _ _ h => h) inv (Or.inl ⟨by rfl, ?_⟩) (by assumption) (fun invn => ?_)
    rotate_left
    · (intro w hSw; (try dsimp only at hSw); go_simp; try with_reducible rfl)
    try simp only [List.getElem_toArray, List.getElem_cons_zero, List.getElem_cons_succ, Act.put, List.setIfInBounds_toArray, List.set_cons_zero, List.set_cons_succ]
    clear inv
    have inv := invn
    clear invn
    refine F_take (i := 11) (v := ?_) rfl (by kernel_rfl) (by kernel_rfl) (by kernel_rfl) (fun _ _ _ h => h) inv (Or.inl ⟨by rfl, ?_⟩) (by assumption) (fun invn => ?_)
    rotate_left
    · (intro w hSw; (try dsimp only at hSw); go_simp; try with_reducible rfl)
    try simp only [List.getElem_toArray, List.getElem_cons_zero, List.getElem_cons_succ, Act.put, List.setIfInBounds_toArray, List.set_cons_zero, List.set_cons_succ]
    clear inv
    have inv := invn
    clear invn
    refine F_one (i := 3) (by kernel_rfl) rfl rfl (by omega) inv (fun K hK => ?_)
    try simp only [List.getElem_toArray, List.getElem_cons_zero, List.getElem_cons_succ]
    go_simp
    refine (implDistancesTo _ _ g a y _ (GrV.keep (w' := w1.drew) HGV.out hb3.drew) (AuV.keep (w' := w1.drew) HAV.out hb3.drew)).mono ?_
    rintro e wD ⟨vD, rfl, hoD, hbD⟩
    obtain ⟨A5, c5, rfl, hl5, hm5, hC5⟩ := hoD.form cI_len
    obtain ⟨b5, o5, rfl, hb5, d5⟩ := hC5.int HGET.out
    refine hK.out _ _ (kB5 hbD hS) (fun hSn invn => ?_)
    try simp only [List.getElem_toArray, List.getElem_cons_zero, List.getElem_cons_succ, Act.put, List.setIfInBounds_toArray, List.set_cons_zero, List.set_cons_succ]
    clear hK K inv hS
    have inv := invn
    have hS := hSn
    clear invn hSn
    refine F_take (i := 12) (v := ?_) rfl (by kernel_rfl) (by kernel_rfl) (by kernel_rfl) (fun _ _ _ h => h) inv (Or.inl ⟨by rfl, ?_⟩) (by assumption) (fun invn => ?_)
    rotate_left
    · (intro w hSw; (try dsimp only at hSw); go_simp; try with_reducible rfl)
    try simp only [List.getElem_toArray, List.getElem_cons_zero, List.getElem_cons_succ, Act.put, List.setIfInBounds_toArray, List.set_cons_zero, List.set_cons_succ]
    clear inv
    have inv := invn
    clear invn
    refine F_one (i := 13) (by kernel_rfl) rfl rfl (by omega) inv (fun K hK => ?_)
    try simp only [List.getElem_toArray, List.getElem_cons_zero, List.getElem_cons_succ]
    go_simp
    refine hK.out _ _ (hS) (fun hSn invn => ?_)
    try simp only [List.getElem_toArray, List.getElem_cons_zero, List.getElem_cons_succ, Act.put, List.setIfInBounds_toArray, List.set_cons_zero, List.set_cons_succ]
    clear hK K inv hS
    have inv := invn
    have hS := hSn
    clear invn hSn
    refine F_last (i := 14) (by kernel_rfl) rfl rfl (by omega) (by kernel_rfl) (fun K hK => ?_)
    go_simp
    refine hK _ _ ?_
    clear hK K inv hS
    clear q1 q1' q2 q2' q5 q6
    go_wp2_with fail
    go_ret
    exact ⟨by rw [HF.out]; simp [List.getElem?_eq_getElem hixl], below_trans hb3.drew hbD⟩
end Go.Proofs.Ytlhpcknpjdeebaa

/- Plain: the distances to a node by sweeps, as the reference finds them. -/
namespace Go.Proofs.Ytlhpcknpjdeebaa
set_option linter.unusedVariables false
set_option linter.unusedSimpArgs false
/-- the first list -/
def ini (g : Gr) (a : Au) (y z : Nat) : Int := if (z / a.accept.length == y && accC a (valAt g y) (z % a.accept.length)) = true then 0 else -1
def iniL (g : Gr) (a : Au) (y k : Nat) : List Int := (List.range k).map (ini g a y)
theorem iniL_len (g : Gr) (a : Au) (y k : Nat) : (iniL g a y k).length = k := by simp [iniL]
theorem iniL_snoc (g : Gr) (a : Au) (y k : Nat) : iniL g a y (k + 1) = iniL g a y k ++ [ini g a y k] := by simp [iniL, List.range_succ]
theorem iniL_at {g : Gr} {a : Au} {y k i : Nat} (h : i < k) : (iniL g a y k).getD i 0 = ini g a y i := by simp [iniL, List.getD, h]
theorem ini_goal {g : Gr} {a : Au} {y z : Nat} (hn : 0 < a.accept.length) : (z / a.accept.length == y && accC a (valAt g y) (z % a.accept.length)) = true ↔ z ∈ goalsL g a y := by
  rw [mem_goalsL, Bool.and_eq_true, beq_iff_eq]
  constructor
  · rintro ⟨rfl, h⟩
    exact ⟨z % a.accept.length, Nat.mod_lt _ hn, h, by rw [Nat.mul_comm]; exact (Nat.div_add_mod z _).symm⟩
  · rintro ⟨s, hs, hc, rfl⟩
    have h1 : (y * a.accept.length + s) / a.accept.length = y := by rw [Nat.mul_comm, Nat.mul_add_div hn, Nat.div_eq_of_lt hs]; rfl
    have h2 : (y * a.accept.length + s) % a.accept.length = s := by rw [Nat.mul_comm, Nat.mul_add_mod, Nat.mod_eq_of_lt hs]
    rw [h1, h2]
    exact ⟨rfl, hc⟩
theorem ini_SwO {g : Gr} {a : Au} {y N : Nat} (hn : 0 < a.accept.length) (next : Nat → List Nat) : SwO next (fun i => i ∈ goalsL g a y) N (iniL g a y N) 0 := by
  refine ⟨iniL_len .., fun i hi => ?_⟩
  rw [iniL_at hi, ini]
  by_cases h : (i / a.accept.length == y && accC a (valAt g y) (i % a.accept.length)) = true
  · rw [if_pos h]
    exact .inr ⟨Int.le_refl _, Int.le_refl _, .inr ⟨Int.le_refl _, (ini_goal hn).1 h, fun m hm => absurd hm (by simp)⟩⟩
  · rw [if_neg h]
    refine .inl ⟨rfl, fun m hm => ?_⟩
    obtain rfl : m = 0 := by omega
    exact fun hg => h ((ini_goal hn).2 hg)
/-- what the sweeps find is what the search found -/
theorem sweep_eq {g : Gr} {a : Au} {y : Nat} (hg : grOk g = true) (ha : auOk a = true) (hy : y < g.vals.length) {D : List Int} (hl : D.length = g.vals.length * a.accept.length)
    (h : ∀ i, i < g.vals.length * a.accept.length → IsDist (nextI g a) (fun i => i ∈ goalsL g a y) i (D.getD i 0)) : D = distTo g a (y : Int) := by
  have hd : (wi (y : Int) 0 ((g.vals.length : Int) - 1) && (grOk g && auOk a)) = true := by
    simp only [Bool.and_eq_true]
    exact ⟨by rw [wi_iff]; omega, hg, ha⟩
  have hN : ∀ i k, i < g.vals.length * a.accept.length → k ∈ nextI g a i → k < g.vals.length * a.accept.length := fun i k _ hk => nextV_lt (grOk_iff.1 hg) ha hk
  have hfs : ∀ i ∈ goalsL g a y, i < g.vals.length * a.accept.length := fun i hi => by
    obtain ⟨s, hs, _, rfl⟩ := mem_goalsL.1 hi
    calc y * a.accept.length + s < y * a.accept.length + a.accept.length := by omega
      _ = (y + 1) * a.accept.length := by rw [Nat.add_mul, Nat.one_mul]
      _ ≤ _ := Nat.mul_le_mul_right _ hy
  rw [distTo, if_pos hd, Int.toNat_natCast]
  refine List.ext_getElem (by rw [hl, spreadR_len]) fun i h1 h2 => ?_
  have hi : i < g.vals.length * a.accept.length := by omega
  have e := (h i hi).uniq (spread_dist hfs hN i hi)
  simpa [List.getD, h1, h2] using e
/-! ### The sweeps' rounds -/
section
variable {next : Nat → List Nat} {goal : Nat → Prop} {N : Nat} {D D0 : List Int} {e i k : Nat} {ch ch0 : Bool}
/-- within a sweep, at vertex i, with k of its next ones looked at -/
def KI (next : Nat → List Nat) (D0 : List Int) (ch0 : Bool) (e i k : Nat) (D : List Int) (ch : Bool) : Prop :=
  (D = D0 ∧ ch = ch0 ∧ ∀ v ∈ (next i).take k, D0.getD v 0 ≠ (e : Int)) ∨ (D = D0.set i ((e : Int) + 1) ∧ ch = true ∧ D0.getD i 0 < 0 ∧ ∃ v ∈ next i, D0.getD v 0 = (e : Int))
def CI (e N : Nat) (D : List Int) (ch : Bool) : Prop := e + negs D ≤ N ∧ (ch = true → e + negs D + 1 ≤ N)
/-- after sweeps -/
def SW (next : Nat → List Nat) (goal : Nat → Prop) (N e : Nat) (D : List Int) (ch : Bool) : Prop :=
  D.length = N ∧ (ch = true → SwO next goal N D e ∧ e + negs D ≤ N) ∧ (ch = false → ∀ i, i < N → IsDist next goal i (D.getD i 0))
theorem KI.start : KI next D0 ch0 e i 0 D0 ch0 := .inl ⟨rfl, rfl, by simp⟩
theorem KI.len (h : KI next D0 ch0 e i k D ch) : D.length = D0.length := by
  rcases h with ⟨rfl, _⟩ | ⟨rfl, _⟩ <;> simp
theorem KI.neg (h : KI next D0 ch0 e i k D ch) (hi : i < D0.length) (hn : D.getD i 0 < 0) : D = D0 ∧ ch = ch0 ∧ ∀ v ∈ (next i).take k, D0.getD v 0 ≠ (e : Int) := by
  rcases h with h | ⟨rfl, _⟩
  · exact h
  · rw [getD_set' hi, if_pos rfl] at hn
    omega
theorem KI.miss (h : KI next D0 ch0 e i k D ch) (hi : i < D0.length) (hn : D.getD i 0 < 0) {v : Nat} (hv : (next i)[k]? = some v) (hd : ¬ D.getD v 0 = (e : Int)) : KI next D0 ch0 e i (k + 1) D ch := by
  obtain ⟨rfl, rfl, h3⟩ := h.neg hi hn
  refine .inl ⟨rfl, rfl, fun x hx => ?_⟩
  rw [take_snoc hv, List.mem_append, List.mem_singleton] at hx
  rcases hx with hx | rfl
  · exact h3 x hx
  · exact hd
theorem KI.hit (h : KI next D0 ch0 e i k D ch) (hi : i < D0.length) (hn : D.getD i 0 < 0) {v : Nat} (hv : (next i)[k]? = some v) (hd : D.getD v 0 = (e : Int)) : KI next D0 ch0 e i (k + 1) (D.set i ((e : Int) + 1)) true := by
  obtain ⟨rfl, rfl, h3⟩ := h.neg hi hn
  exact .inr ⟨rfl, rfl, hn, v, List.mem_of_getElem? hv, hd⟩
theorem KI.fin (h : KI next D0 ch0 e i k D ch) (hs : SwI next goal N D0 e i ch0) (hi : i < N) (hk : (next i).length ≤ k ∨ ¬ D.getD i 0 < 0) (hnN : ∀ i k, i < N → k ∈ next i → k < N) : SwI next goal N D e (i + 1) ch := by
  rcases h with ⟨rfl, rfl, h3⟩ | ⟨rfl, rfl, h3, v, hv, hd⟩
  · refine hs.skip ?_ hnN
    rcases hk with hk | hk
    · exact .inr fun v hv => h3 v (by rw [List.take_of_length_le hk]; exact hv)
    · exact .inl hk
  · exact hs.put hi h3 hv hd hnN
theorem KI.cnt (h : KI next D0 ch0 e i k D ch) (hc : CI e N D0 ch0) (hi : i < D0.length) : CI e N D ch := by
  rcases h with ⟨rfl, rfl, _⟩ | ⟨rfl, rfl, h3, _⟩
  · exact hc
  · have h1 := negs_set (k := i) (d := (e : Int) + 1) hi h3 (by omega)
    have h2 := hc.1
    exact ⟨by omega, fun _ => by omega⟩
theorem SW.enter (h : SW next goal N e D true) : SwI next goal N D e 0 false ∧ CI e N D false := ⟨(h.2.1 rfl).1.enter, (h.2.1 rfl).2, by simp⟩
theorem SW.leave (h : SwI next goal N D e N ch) (hc : CI e N D ch) (hnN : ∀ i k, i < N → k ∈ next i → k < N) : SW next goal N (e + 1) D ch := by
  refine ⟨h.1, fun ht => ⟨h.leave, ?_⟩, fun hf => ?_⟩
  · have := hc.2 ht; omega
  · subst hf; exact h.stop hnN
theorem SW.ini (h : SwO next goal N D 0) : SW next goal N 0 D true := by
  refine ⟨h.1, fun _ => ⟨h, ?_⟩, by simp⟩
  have := List.countP_le_length (p := fun x : Int => decide (x < 0)) (l := D)
  rw [h.1] at this
  simpa [negs] using this
theorem CI.le (h : CI e N D ch) : e ≤ N := by have := h.1; omega
end
end Go.Proofs.Ytlhpcknpjdeebaa

/- The reference's l14Back: the distances to a node, by sweeps. -/
namespace Go.Proofs.Ytlhpcknpjdeebaa
set_option linter.unusedVariables false
set_option linter.unusedSimpArgs false
open Go.ChangeShapes Go.WideShapes Go.ChangeAt Go.RowKit
attribute [local go_sem] ext_cell ext_frozen ext_lt ext_lt1 ext_lt2 ext_lt3 ltn2 ltn3 ltn13 lts1 lts2 lts3

theorem elPSS : ElemOk Try.prog 128 129 (.slice none 0 0) 1 24 := ⟨Try.underlying128, by kernel_rfl, rfl, by omega⟩
/-- the rows of the product's steps, vertex by vertex -/
def psI (g : Gr) (a : Au) (i : Nat) : List PS := prodSteps g a (i / a.accept.length) (i % a.accept.length)
theorem psI_next (g : Gr) (a : Au) (i : Nat) : nextI g a i = (psI g a i).map (psV a.accept.length) := (psV_next g a _ _).symm
theorem SlI.ps {lo hi : Nat} {w : World} {A : Option Addr} {n c : Nat} {xs : List PS} (h : SlI lo hi w cPS 4 (.slice A n c) xs) {i : Nat} {x : PS} (hx : xs[i]? = some x) :
    ∃ b o, A = some ⟨b, o, none⟩ ∧ lo ≤ b ∧ b < hi ∧ w.cell? ⟨b, o + i * 4 + 2, none⟩ = some (.int .i64 x.2.1) ∧ w.cell? ⟨b, o + i * 4 + 3, none⟩ = some (.int .i64 x.2.2) := by
  obtain ⟨A', c', hv, _, _, h3⟩ := h
  injection hv with h1 _ _
  subst h1
  obtain ⟨b, o, e, g1, g2, hc⟩ := h3 i x hx
  exact ⟨b, o, e, g1, g2, hc 2 _ rfl, hc 3 _ rfl⟩
def psL (g : Gr) (a : Au) (k : Nat) : List (List PS) := (List.range k).map (psI g a)
theorem psL_len (g : Gr) (a : Au) (k : Nat) : (psL g a k).length = k := by simp [psL]
theorem psL_snoc (g : Gr) (a : Au) (k : Nat) : psL g a (k + 1) = psL g a k ++ [psI g a k] := by simp [psL, List.range_succ]
theorem psL_at {g : Gr} {a : Au} {k i : Nat} (h : i < k) : (psL g a k)[i]? = some (psI g a i) := by simp [psL, h]
set_option maxHeartbeats 8000000 in
set_option maxRecDepth 100000 in
theorem l14Back_any (vg va : Value) (g : Gr) (a : Au) (y : Nat) (w : World) (hgv : GrV 0 w.heap.size w vg g) (hav : AuV 0 w.heap.size w va a) (hgo : grOk g = true) (ha : auOk a = true) (hy : y < g.vals.length) :
    Calls Try.prog 65 #[vg, va, .int .i64 (y : Int)] w fun e w' => ∃ v', e = .returned v' ∧ Own w.heap.size w'.heap.size w' 3 cI 1 v' (distTo g a (y : Int)) ∧ Below w.heap.size w w' := by
  have hg := grOk_iff.1 hgo
  have hav0 := hav
  have hgv0 := hgv
  obtain ⟨A1, c1, A2, c2, rfl, hl1, hm1, hl2, hm2, -, -⟩ := hgv.form
  obtain ⟨A3, c3, A4, c4, rfl, hl3, hm3, hl4, hm4, -⟩ := hav.form ha
  have hn5 := hg.n5
  have he12 := hg.e12
  have hn12 := (auOk_iff.1 ha).1.2
  have hn1 := (auOk_iff.1 ha).1.1
  have hN60 : g.vals.length * a.accept.length ≤ 60 := Nat.mul_le_mul hn5 hn12
  have HGO := Lib.hid hgo
  have HAO := Lib.hid ha
  have HAV := Lib.hid hav0
  have HGV := Lib.hid hgv0
  have hb0 : Below w.heap.size w ((w.alloc (.cells #[.slice A1 g.vals.length c1, .slice A2 g.edges.length c2] 39)).alloc (.cells #[.int .i64 a.start, .slice A3 a.accept.length c3, .slice A4 a.accept.length c4] 41)) := ((Below.refl _ _).alloc (Nat.le_refl _) _).alloc (by simp) _
  obtain ⟨R, hR⟩ : ∃ R, R = distTo g a (y : Int) := ⟨_, rfl⟩
  rw [← hR]
  have HR := Lib.hid hR
  clear hgv hav ha hg hgo hav0 hgv0 hR
  go_enter Try.func65, Try.ntmps65
  go_wp2_with fail
  obtain ⟨W0, hW0⟩ : ∃ W0, W0 = ((w.alloc (.cells #[.slice A1 g.vals.length c1, .slice A2 g.edges.length c2] 39)).alloc (.cells #[.int .i64 a.start, .slice A3 a.accept.length c3, .slice A4 a.accept.length c4] 41)) := ⟨_, rfl⟩
  rw [← hW0] at hb0 ⊢
  have x0 : W0.cell? ⟨w.heap.size, 0, none⟩ = some (.slice A1 g.vals.length c1) := by rw [hW0]; simp
  have x1 : W0.cell? ⟨w.heap.size, 1, none⟩ = some (.slice A2 g.edges.length c2) := by rw [hW0]; simp
  have y0 : W0.cell? ⟨w.heap.size + 1, 0, none⟩ = some (.int .i64 a.start) := by rw [hW0]; simp
  have y1 : W0.cell? ⟨w.heap.size + 1, 1, none⟩ = some (.slice A3 a.accept.length c3) := by rw [hW0]; simp
  have y2 : W0.cell? ⟨w.heap.size + 1, 2, none⟩ = some (.slice A4 a.accept.length c4) := by rw [hW0]; simp
  have hs0 : w.heap.size + 1 + 1 = W0.heap.size := by rw [hW0]; simp
  rw [hs0]
  have l0 : w.heap.size + 1 < W0.heap.size := by omega
  have l00 : w.heap.size < W0.heap.size := by omega
  clear hW0 hs0
  obtain ⟨N, hN⟩ : ∃ N, N = g.vals.length * a.accept.length := ⟨_, rfl⟩
  rw [← hN] at hN60
  have m0 : IntKind.i64.wrap ((g.vals.length : Int) * (a.accept.length : Int)) = (N : Int) := by rw [IntWalk.i64_in _ (by rw [← Int.natCast_mul, ← hN]; omega)]; rw [hN, Int.natCast_mul]
  have m0' : (g.vals.length : Int) * (a.accept.length : Int) = (N : Int) := by rw [hN, Int.natCast_mul]
  have HN := Lib.hid hN
  clear hN
  go_loopw [8, 9, 10] (fun dd kk _ wr => ∃ k : Nat, k ≤ N ∧ kk = .int .i64 (k : Int) ∧ wr.ownsRow W0.heap.size 3 1 dd (iniL g a y k).length ((iniL g a y k).flatMap cI) ∧ Below W0.heap.size W0 wr) (fun _ kk _ _ => N - (intOf kk).toNat)
  case atStart => exact ⟨0, Nat.zero_le _, rfl, World.ownsRow_lit W0 #[] 0 (Nat.le_refl _) (by decide) rfl, (Below.refl _ _).alloc (Nat.le_refl _) _⟩
  case round =>
    obtain ⟨k, hk, rfl, hrow, hbel⟩ := hrel
    have HROW := Lib.hid hrow
    have x0 := kcell hbel x0
    have x1 := kcell hbel x1
    have y0 := kcell hbel y0
    have y1 := kcell hbel y1
    have y2 := kcell hbel y2
    have hsz := hbel.size
    have l0 := Nat.lt_of_lt_of_le l0 hsz
    have l00 := Nat.lt_of_lt_of_le l00 hsz
    have hbw := below_trans hb0 hbel
    have HBW := Lib.hid hbw
    clear hrow hbw
    by_cases hlt : k < N
    · have hgp : g.vals.length * a.accept.length = N := HN.out.symm
      have hnp : 0 < a.accept.length := by rcases Nat.eq_zero_or_pos a.accept.length with h | h; (rw [h, Nat.mul_zero] at hgp; omega); exact h
      obtain ⟨X, hX⟩ : ∃ X, X = k / a.accept.length := ⟨_, rfl⟩
      obtain ⟨S, hS⟩ : ∃ S, S = k % a.accept.length := ⟨_, rfl⟩
      have hXl : X < g.vals.length := by rw [hX]; exact Nat.div_lt_of_lt_mul (by rw [Nat.mul_comm, hgp]; exact hlt)
      have hSl : S < a.accept.length := by rw [hS]; exact Nat.mod_lt _ hnp
      have t1 : (k : Int).tdiv (a.accept.length : Int) = (X : Int) := by rw [hX]; rfl
      have t2 : (k : Int).tmod (a.accept.length : Int) = (S : Int) := by rw [hS]; rfl
      have hn0 : ((a.accept.length : Int) == 0) = false := by simp only [beq_eq_false_iff_ne, ne_eq]; omega
      have hki : (k : Int) < (N : Int) := by omega
      have HINI := Lib.hid (show ini g a y k = if (X == y && accC a (valAt g y) S) = true then 0 else -1 by rw [hX, hS]; rfl)
      clear hX hS hgp
      have HSN := Lib.hid (iniL_snoc g a y k)
      have hil : (iniL g a y k).length ≤ 60 := by rw [iniL_len]; omega
      generalize iniL g a y k = D at *
      have HACC := Lib.hid (show ∀ W, Below w.heap.size w W → Calls Try.prog 86 #[.agg #[.slice A1 g.vals.length c1, .slice A2 g.edges.length c2], .agg #[.int .i64 a.start, .slice A3 a.accept.length c3, .slice A4 a.accept.length c4], .int .i64 (X : Int), .int .i64 (S : Int)] W fun e w' => e = .returned (.bool (accC a (valAt g X) S)) ∧ Below W.heap.size W w' from fun W hW => l14Accepts_any _ _ g a X S W (HGV.out.keep hW) (HAV.out.keep hW) (grOk_iff.1 HGO.out) HAO.out hXl hSl)
      by_cases hxy : X = y
      · have k1 : ((X : Int) == (y : Int)) = true := by rw [hxy]; simp
        have HXY := Lib.hid hxy
        clear hxy
        go_wp2_with fail
        refine wp_region_ext_lit (by kernel_rfl) (by kernel_rfl) ?_
        repeat (go_big_quiet_step ((go_at_call 86; exact Calls.ext_of (HACC.out _ (below_trans HBW.out (ext_below _ _))))))
        refine wpQuiet_nil ?_
        intro _ hw'
        obtain ⟨u2, hw''⟩ := hw'
        subst hw''
        have hbu := ext_below wr u2
        have HR2 := Lib.hid (ownsRow_below HROW.out hbu (Nat.le_refl _))
        have hz2 : W0.heap.size ≤ (ext wr u2).heap.size := Nat.le_trans hsz hbu.size
        have hbel2 := hbel.trans (hbu.mono hsz)
        generalize ext wr u2 = wx at *
        cases hacc : accC a (valAt g X) S with
        | true =>
          have HV := Lib.hid (show ini g a y k = 0 by rw [HINI.out, ← HXY.out, hacc]; simp)
          clear hacc
          go_wp2_with (at_builtin; (refine wpList_append1 cI elInt rfl _ _ rfl W0.heap.size _ (D) (0) _ 1 _ (by rfl) (HR2.out) (by rfl) rfl rfl rfl (cI_one _) (by omega) (by omega) (by omega) ?_); intro v' w4 hrow' hb4 _ _)
          go_roundw
          case rel => exact ⟨k + 1, by omega, by go_num, by rw [HSN.out, HV.out]; exact hrow', hbel2.trans hb4⟩
          case measure => simp [intOf]; omega
        | false =>
          have HV := Lib.hid (show ini g a y k = -1 by rw [HINI.out, ← HXY.out, hacc]; simp)
          clear hacc
          go_wp2_with (at_builtin; (refine wpList_append1 cI elInt rfl _ _ rfl W0.heap.size _ (D) (-1) _ 1 _ (by rfl) (HR2.out) (by rfl) rfl rfl rfl (cI_one _) (by omega) (by omega) (by omega) ?_); intro v' w4 hrow' hb4 _ _)
          go_roundw
          case rel => exact ⟨k + 1, by omega, by go_num, by rw [HSN.out, HV.out]; exact hrow', hbel2.trans hb4⟩
          case measure => simp [intOf]; omega
      · have k1 : ((X : Int) == (y : Int)) = false := by simp only [beq_eq_false_iff_ne, ne_eq]; omega
        have HV := Lib.hid (show ini g a y k = -1 by rw [HINI.out, beq_eq_false_iff_ne.2 hxy]; simp)
        clear hxy
        go_wp2_with fail
        refine wp_region_ext_lit (by kernel_rfl) (by kernel_rfl) ?_
        repeat (go_big_quiet_step ((go_at_call 86; exact Calls.ext_of (HACC.out _ (below_trans HBW.out (ext_below _ _))))))
        refine wpQuiet_nil ?_
        intro _ hw'
        obtain ⟨u2, hw''⟩ := hw'
        subst hw''
        have hbu := ext_below wr u2
        have HR2 := Lib.hid (ownsRow_below HROW.out hbu (Nat.le_refl _))
        have hz2 : W0.heap.size ≤ (ext wr u2).heap.size := Nat.le_trans hsz hbu.size
        have hbel2 := hbel.trans (hbu.mono hsz)
        generalize ext wr u2 = wx at *
        go_wp2_with (at_builtin; (refine wpList_append1 cI elInt rfl _ _ rfl W0.heap.size _ (D) (-1) _ 1 _ (by rfl) (HR2.out) (by rfl) rfl rfl rfl (cI_one _) (by omega) (by omega) (by omega) ?_); intro v' w4 hrow' hb4 _ _)
        go_roundw
        case rel => exact ⟨k + 1, by omega, by go_num, by rw [HSN.out, HV.out]; exact hrow', hbel2.trans hb4⟩
        case measure => simp [intOf]; omega
    · obtain rfl : k = N := by omega
      clear hlt hk
      obtain ⟨wo, rfl⟩ : ∃ wo : World, wo = wr := ⟨_, rfl⟩
      obtain ⟨AD, cD, rfl, hlD, hmD, -⟩ := (Own.of_row (xs := iniL g a y k) HROW.out rfl rfl).form cI_len
      rw [iniL_len] at hlD ⊢
      go_wp2_with fail
      go_loopw [11, 12] (fun nn ii wr => ∃ (i : Nat) (us : List Value), i ≤ k ∧ ii = .int .i64 (i : Int) ∧ NS wo.heap.size wr 129 132 cPS 4 nn us (psL g a i) ∧ Below wo.heap.size wo wr) (fun _ ii _ => k - (intOf ii).toNat)
      case atStart => exact ⟨0, [], Nat.zero_le _, rfl, NS.start (World.ownsRow_lit wo #[] 0 (Nat.le_refl _) (by decide) rfl), (Below.refl _ _).alloc (Nat.le_refl _) _⟩
      case round =>
        obtain ⟨i, us, hi, rfl, hns, hb2⟩ := hrel
        have hbw2 := below_trans HBW.out hb2
        have x0 := kcell hb2 x0
        have x1 := kcell hb2 x1
        have y0 := kcell hb2 y0
        have y1 := kcell hb2 y1
        have y2 := kcell hb2 y2
        have hs2 := hb2.size
        have HNS := Lib.hid hns
        have HBW2 := Lib.hid hbw2
        clear hns hbw2
        by_cases hlt : i < k
        · have hgp : g.vals.length * a.accept.length = k := HN.out.symm
          have hnp : 0 < a.accept.length := by rcases Nat.eq_zero_or_pos a.accept.length with h | h; (rw [h, Nat.mul_zero] at hgp; omega); exact h
          obtain ⟨X, hX⟩ : ∃ X, X = i / a.accept.length := ⟨_, rfl⟩
          obtain ⟨S, hS⟩ : ∃ S, S = i % a.accept.length := ⟨_, rfl⟩
          have hXl : X < g.vals.length := by rw [hX]; exact Nat.div_lt_of_lt_mul (by rw [Nat.mul_comm, hgp]; exact hlt)
          have hSl : S < a.accept.length := by rw [hS]; exact Nat.mod_lt _ hnp
          have t1 : (i : Int).tdiv (a.accept.length : Int) = (X : Int) := by rw [hX]; rfl
          have t2 : (i : Int).tmod (a.accept.length : Int) = (S : Int) := by rw [hS]; rfl
          have hn0 : ((a.accept.length : Int) == 0) = false := by simp only [beq_eq_false_iff_ne, ne_eq]; omega
          have HPX := Lib.hid (show psL g a (i + 1) = psL g a i ++ [prodSteps g a X S] by rw [psL_snoc, hX, hS]; rfl)
          have hpl := psL_len g a i
          clear hX hS hgp
          generalize psL g a i = PL at *
          have N0 := Ne.symm (α := Option Nat) (mt (HNS.out.own.lt w.heap.size) (by omega))
          have N1 := Ne.symm (α := Option Nat) (mt (HNS.out.own.lt (w.heap.size + 1)) (by omega))
          have HN0 := Lib.hid N0
          have HN1 := Lib.hid N1
          have hae : a.accept ≠ [] := by intro h; rw [h] at hnp; simp at hnp
          have q1 : IntKind.i64.wrap (X : Int) = (X : Int) := IntWalk.i64_in _ (by omega)
          have q2 : IntKind.i64.wrap (S : Int) = (S : Int) := IntWalk.i64_in _ (by omega)
          clear N0 N1
          go_wp2_with fail
          refine F_start 12 (fun w' => w'.cell? ⟨w.heap.size, 0, none⟩ = some (.slice A1 g.vals.length c1) ∧ w'.cell? ⟨w.heap.size, 1, none⟩ = some (.slice A2 g.edges.length c2) ∧ w'.cell? ⟨w.heap.size + 1, 0, none⟩ = some (.int .i64 a.start) ∧ w'.cell? ⟨w.heap.size + 1, 1, none⟩ = some (.slice A3 a.accept.length c3) ∧ w'.cell? ⟨w.heap.size + 1, 2, none⟩ = some (.slice A4 a.accept.length c4)) (by kernel_rfl) (by exact ⟨x0, x1, y0, y1, y2⟩) (fun hS inv => ?_)
          refine F_take (i := 0) (v := ?_) rfl (by kernel_rfl) (by kernel_rfl) (by kernel_rfl) (fun _ _ _ h => h) inv (Or.inl ⟨by rfl, ?_⟩) (by assumption) (fun invn => ?_)
          rotate_left
          · (intro w hSw; (try dsimp only at hSw); go_simp; try with_reducible rfl)
          try simp only [List.getElem_toArray, List.getElem_cons_zero, List.getElem_cons_succ, Act.put, List.setIfInBounds_toArray, List.set_cons_zero, List.set_cons_succ]
          clear inv
          have inv := invn
          clear invn
          refine F_take (i := 1) (v := ?_) rfl (by kernel_rfl) (by kernel_rfl) (by kernel_rfl) (fun _ _ _ h => h) inv (Or.inl ⟨by rfl, ?_⟩) (by assumption) (fun invn => ?_)
          rotate_left
          · (intro w hSw; (try dsimp only at hSw); go_simp; try with_reducible rfl)
          try simp only [List.getElem_toArray, List.getElem_cons_zero, List.getElem_cons_succ, Act.put, List.setIfInBounds_toArray, List.set_cons_zero, List.set_cons_succ]
          clear inv
          have inv := invn
          clear invn
          refine F_take (i := 2) (v := ?_) rfl (by kernel_rfl) (by kernel_rfl) (by kernel_rfl) (fun _ _ _ h => h) inv (Or.inl ⟨by rfl, ?_⟩) (by assumption) (fun invn => ?_)
          rotate_left
          · (intro w hSw; (try dsimp only at hSw); go_simp; try with_reducible rfl)
          try simp only [List.getElem_toArray, List.getElem_cons_zero, List.getElem_cons_succ, Act.put, List.setIfInBounds_toArray, List.set_cons_zero, List.set_cons_succ]
          clear inv
          have inv := invn
          clear invn
          refine F_take (i := 3) (v := ?_) rfl (by kernel_rfl) (by kernel_rfl) (by kernel_rfl) (fun _ _ _ h => h) inv (Or.inl ⟨by rfl, ?_⟩) (by assumption) (fun invn => ?_)
          rotate_left
          · (intro w hSw; (try dsimp only at hSw); go_simp; try with_reducible rfl)
          try simp only [List.getElem_toArray, List.getElem_cons_zero, List.getElem_cons_succ, Act.put, List.setIfInBounds_toArray, List.set_cons_zero, List.set_cons_succ]
          clear inv
          have inv := invn
          clear invn
          refine F_take (i := 4) (v := ?_) rfl (by kernel_rfl) (by kernel_rfl) (by kernel_rfl) (fun _ _ _ h => h) inv (Or.inl ⟨by rfl, ?_⟩) (by assumption) (fun invn => ?_)
          rotate_left
          · (intro w hSw; (try dsimp only at hSw); go_simp; try with_reducible rfl)
          try simp only [List.getElem_toArray, List.getElem_cons_zero, List.getElem_cons_succ, Act.put, List.setIfInBounds_toArray, List.set_cons_zero, List.set_cons_succ]
          clear inv
          have inv := invn
          clear invn
          refine F_take (i := 5) (v := ?_) rfl (by kernel_rfl) (by kernel_rfl) (by kernel_rfl) (fun _ _ _ h => h) inv (Or.inl ⟨by rfl, ?_⟩) (by assumption) (fun invn => ?_)
          rotate_left
          · (intro w hSw; (try dsimp only at hSw); go_simp; try with_reducible rfl)
          try simp only [List.getElem_toArray, List.getElem_cons_zero, List.getElem_cons_succ, Act.put, List.setIfInBounds_toArray, List.set_cons_zero, List.set_cons_succ]
          clear inv
          have inv := invn
          clear invn
          refine F_take (i := 6) (v := ?_) rfl (by kernel_rfl) (by kernel_rfl) (by kernel_rfl) (fun _ _ _ h => h) inv (Or.inl ⟨by rfl, ?_⟩) (by assumption) (fun invn => ?_)
          rotate_left
          · (intro w hSw; (try dsimp only at hSw); go_simp; try with_reducible rfl)
          try simp only [List.getElem_toArray, List.getElem_cons_zero, List.getElem_cons_succ, Act.put, List.setIfInBounds_toArray, List.set_cons_zero, List.set_cons_succ]
          clear inv
          have inv := invn
          clear invn
          refine F_take (i := 7) (v := ?_) rfl (by kernel_rfl) (by kernel_rfl) (by kernel_rfl) (fun _ _ _ h => h) inv (Or.inl ⟨by rfl, ?_⟩) (by assumption) (fun invn => ?_)
          rotate_left
          · (intro w hSw; (try dsimp only at hSw); go_simp; try with_reducible rfl)
          try simp only [List.getElem_toArray, List.getElem_cons_zero, List.getElem_cons_succ, Act.put, List.setIfInBounds_toArray, List.set_cons_zero, List.set_cons_succ]
          clear inv
          have inv := invn
          clear invn
          refine F_take (i := 8) (v := ?_) rfl (by kernel_rfl) (by kernel_rfl) (by kernel_rfl) (fun _ _ _ h => h) inv (Or.inl ⟨by rfl, ?_⟩) (by assumption) (fun invn => ?_)
          rotate_left
          · (intro w hSw; (try dsimp only at hSw); go_simp; try with_reducible rfl)
          try simp only [List.getElem_toArray, List.getElem_cons_zero, List.getElem_cons_succ, Act.put, List.setIfInBounds_toArray, List.set_cons_zero, List.set_cons_succ]
          clear inv
          have inv := invn
          clear invn
          refine F_one (i := 9) (by kernel_rfl) rfl rfl (by omega) inv (fun K hK => ?_)
          try simp only [List.getElem_toArray, List.getElem_cons_zero, List.getElem_cons_succ]
          go_simp
          refine (l14Steps_any _ _ g a X S _ (HGV.out.keep (below_trans HBW2.out ((Below.refl wr.heap.size wr).drew))) (HAV.out.keep (below_trans HBW2.out ((Below.refl wr.heap.size wr).drew))) HGO.out HAO.out hXl hSl).mono ?_
          rintro e wT ⟨vT, rfl, hoT, hbT⟩
          have HR1 := Lib.hid ((HNS.out.below (Below.refl wr.heap.size wr).drew).below hbT)
          have HOT := Lib.hid (hoT.1)
          have hzT : wr.heap.size ≤ wT.heap.size := hbT.size
          have HBT := Lib.hid (below_trans ((Below.refl wr.heap.size wr).drew) hbT)
          obtain ⟨AT, nT, cT, rfl⟩ := hoT.shape
          refine hK.out _ _ (kB5 hbT hS) (fun hSn invn => ?_)
          try simp only [List.getElem_toArray, List.getElem_cons_zero, List.getElem_cons_succ, Act.put, List.setIfInBounds_toArray, List.set_cons_zero, List.set_cons_succ]
          clear hK K inv hS
          have inv := invn
          have hS := hSn
          clear invn hSn
          refine F_one (i := 10) (by kernel_rfl) rfl rfl (by omega) inv (fun K hK => ?_)
          try simp only [List.getElem_toArray, List.getElem_cons_zero, List.getElem_cons_succ]
          go_simp
          refine hK.out _ _ (kA5 _ hS) (fun hSn invn => ?_)
          try simp only [List.getElem_toArray, List.getElem_cons_zero, List.getElem_cons_succ, Act.put, List.setIfInBounds_toArray, List.set_cons_zero, List.set_cons_succ]
          clear hK K inv hS
          have inv := invn
          have hS := hSn
          clear invn hSn
          refine F_one (i := 11) (by kernel_rfl) rfl rfl (by omega) inv (fun K hK => ?_)
          try simp only [List.getElem_toArray, List.getElem_cons_zero, List.getElem_cons_succ]
          have hus := HNS.out.len
          refine op_append1 cV elPSS rfl _ _ (by rfl) wo.heap.size _ us (.slice AT nT cT) 1 _ (by rfl) (HR1.out.own.alloc _) (by first | rfl | simp) (heap_alloc_new _ _) rfl (by intro u hu; simp only [cV, List.mem_cons, List.not_mem_nil, or_false] at hu; subst hu; rfl) (by omega) (by omega) (by simp; omega) ?_
          intro g2 cp2 w3 hown3 hgr3 hat3 hlt3
          have HW3 := Lib.hid hown3
          have HG3 := Lib.hid hgr3
          have HA3 := Lib.hid hat3
          clear hown3 hgr3 hat3
          refine hK.out _ _ (kG5 HG3.out HN0.out HN0.out HN1.out HN1.out HN1.out hS) (fun hSn invn => ?_)
          try simp only [List.getElem_toArray, List.getElem_cons_zero, List.getElem_cons_succ, Act.put, List.setIfInBounds_toArray, List.set_cons_zero, List.set_cons_succ]
          clear hK K inv hS
          have inv := invn
          have hS := hSn
          clear invn hSn
          refine F_last (i := 12) (by kernel_rfl) rfl rfl (by omega) (by kernel_rfl) (fun K hK => ?_)
          go_simp
          refine hK _ _ ?_
          clear hK K inv hS
          clear q1 q2
          go_wp2_with fail
          go_roundw
          case rel => exact ⟨i + 1, us ++ [.slice AT nT cT], by omega, by go_num, by rw [HPX.out]; exact (HR1.out.below ((Below.refl _ _).alloc (Nat.le_refl _) _)).push (ownsRow_mono (HOT.out.alloc _) hs2) (fun b hb hm => by have h1 := (HNS.out.lt b hm).2; have h2 := (HOT.out.lt b hb).1; have h3 : wr.drew.heap.size = wr.heap.size := rfl; omega) HG3.out (by have h := HW3.out; rwa [show us.length + 1 = i + 1 by omega] at h) (fun g hg => by cases hg; exact HA3.out), ((hb2.trans (HBT.out.mono hs2)).alloc (by omega) _).trans (own_below (HR1.out.own.alloc _) (by simp; omega) HG3.out)⟩
          case measure => simp [intOf]; omega
        · obtain rfl : i = k := by omega
          obtain ⟨N, hNi⟩ : ∃ N, N = i := ⟨_, rfl⟩
          subst hNi
          obtain ⟨w3, rfl⟩ : ∃ w3 : World, w3 = wr := ⟨_, rfl⟩
          have hgn1 := (grOk_iff.1 HGO.out).n1
          have hN1 : 1 ≤ N := by have h := HN.out; rw [h]; exact Nat.mul_pos hgn1 hn1
          have hrow := ownsRow_below HROW.out hb2 (Nat.le_refl _)
          rw [iniL_len] at hrow
          obtain ⟨gD, cD', hvD, hgD, -, -, -⟩ := own_some hrow (by omega)
          injection hvD with e1 _ e3
          subst e1
          subst e3
          have hgDo : gD < wo.heap.size := (HROW.out.lt gD rfl).2
          have hini := SW.ini (ini_SwO (g := g) (y := y) (N := N) hn1 (nextI g a))
          have hnN : ∀ i k, i < N → k ∈ nextI g a i → k < N := fun i k _ hk => by rw [HN.out]; exact nextV_lt (grOk_iff.1 HGO.out) HAO.out hk
          obtain ⟨gN, cN', AN, cN2, rfl, -, hgN3, -, -, -, -⟩ := HNS.out.row cPS_len (psL_at (show 0 < N by omega))
          have hgNo : wo.heap.size ≤ gN := (HNS.out.own.lt gN rfl).1
          rw [psL_len]
          have HROW3 := Lib.hid hrow
          have HINI := Lib.hid hini
          have HNN := Lib.hid hnN
          clear HROW hrow hini hnN m0 m0' HBW hbel hb2 hi
          go_wp2_with fail
          go_loopw [13, 14] (fun cc dd wr => ∃ (d e : Nat) (D : List Int) (ch : Bool), d = e + 1 ∧ cc = .bool ch ∧ dd = .int .i64 (d : Int) ∧ e ≤ N + 1 ∧ SW (nextI g a) (fun i => i ∈ goalsL g a y) N e D ch ∧ wr.ownsRow W0.heap.size 3 1 (.slice (some ⟨gD, 0, none⟩) N cD) N (D.flatMap cI) ∧ Only gD (gD + 1) w3 wr) (fun _ dd _ => N + 3 - (intOf dd).toNat)
          case atStart => exact ⟨1, 0, _, true, rfl, rfl, rfl, by omega, HINI.out, HROW3.out, Only.refl _ _ _⟩
          case round =>
            clear HINI HROW3
            obtain ⟨d, e, D, ch, hde, rfl, rfl, heN, hsw, hrow, hon⟩ := hrel
            have HSW := Lib.hid hsw
            have HROW := Lib.hid hrow
            clear hsw hrow
            cases ch with
            | false =>
              have hD : D = distTo g a (y : Int) := sweep_eq HGO.out HAO.out hy (by rw [← HN.out]; exact HSW.out.1) (by rw [← HN.out]; exact HSW.out.2.2 rfl)
              rw [← HR.out] at hD
              have hown := Own.of_row (xs := D) (ownsRow_mono HROW.out hb0.size) HSW.out.1 rfl
              rw [hD] at hown
              have HO := Lib.hid hown
              have hfin : Below w.heap.size w wr := HBW2.out.trans (hon.below (by have := hb0.size; omega) HBW2.out.size)
              clear hD hown
              go_wp2_with fail
              go_ret
              exact ⟨_, rfl, HO.out, hfin⟩
            | true =>
              obtain ⟨hsi, hci⟩ := HSW.out.enter
              have heN2 := hci.le
              have HSI := Lib.hid hsi
              have HCI := Lib.hid hci
              have HDE := Lib.hid hde
              have hd1 : 1 ≤ d := by omega
              have hdN : d ≤ N + 1 := by omega
              clear hsi hci hde HSW
              go_wp2_with fail
              go_loopw [13, 15] (fun cc ii wr => ∃ (i : Nat) (D : List Int) (ch : Bool), i ≤ N ∧ cc = .bool ch ∧ ii = .int .i64 (i : Int) ∧ SwI (nextI g a) (fun i => i ∈ goalsL g a y) N D e i ch ∧ CI e N D ch ∧ wr.ownsRow W0.heap.size 3 1 (.slice (some ⟨gD, 0, none⟩) N cD) N (D.flatMap cI) ∧ Only gD (gD + 1) w3 wr) (fun _ ii _ => N - (intOf ii).toNat)
              case atStart => exact ⟨0, D, false, Nat.zero_le _, rfl, rfl, HSI.out, HCI.out, HROW.out, hon⟩
              case round =>
                clear HSI HCI HROW hon
                obtain ⟨i, D0, ch0, hi, rfl, rfl, hsi, hci, hrow, hon⟩ := hrel
                have HSI := Lib.hid hsi
                have HCI := Lib.hid hci
                have HROW := Lib.hid hrow
                clear hsi hci hrow
                by_cases hlt : i < N
                · obtain ⟨A7, c7, hc7, hl7, hm7, hs7⟩ := HNS.out.at cPS_len rfl (psL_at hlt)
                  have hlp : (psI g a i).length ≤ 288 := prodSteps_len (grOk_iff.1 HGO.out) a _ _
                  have hnl : (nextI g a i).length = (psI g a i).length := by rw [psI_next, List.length_map]
                  have HNL := Lib.hid hnl
                  have HS7 := Lib.hid hs7
                  have HC7 := Lib.hid hc7
                  clear hnl hs7 hc7
                  go_wp2_with fail
                  go_loopw [13, 16] (fun cc kk wr => ∃ (k : Nat) (D : List Int) (ch : Bool), k ≤ (psI g a i).length ∧ cc = .bool ch ∧ kk = .int .i64 (k : Int) ∧ KI (nextI g a) D0 ch0 e i k D ch ∧ wr.ownsRow W0.heap.size 3 1 (.slice (some ⟨gD, 0, none⟩) N cD) N (D.flatMap cI) ∧ Only gD (gD + 1) w3 wr) (fun _ kk _ => (psI g a i).length - (intOf kk).toNat)
                  case atStart => exact ⟨0, D0, ch0, Nat.zero_le _, rfl, rfl, KI.start, HROW.out, hon⟩
                  case round =>
                    clear HROW hon
                    obtain ⟨k, D, ch, hk, rfl, rfl, hki, hrow, hon⟩ := hrel
                    have hDl : D.length = N := hki.len.trans HSI.out.1
                    have c7w := ocell hon HC7.out hgN3 (.inr (by omega))
                    have hDc := (World.ownsRow.cellAt hrow i (by omega)).trans (flatI_at (getD_of (k := i) (by omega)))
                    obtain ⟨xi, hxi⟩ : ∃ xi, xi = D.getD i 0 := ⟨_, rfl⟩
                    rw [← hxi] at hDc
                    have hcn := hki.cnt HCI.out (by rw [HSI.out.1]; exact hlt)
                    have HKI := Lib.hid hki
                    have HROW := Lib.hid hrow
                    have HXI := Lib.hid hxi
                    have HDL := Lib.hid hDl
                    have HCN := Lib.hid hcn
                    have hii : (i : Int) < (N : Int) := by omega
                    clear hki hrow hxi hDl hcn
                    by_cases hlk : k < (psI g a i).length
                    · by_cases hneg : xi < 0
                      · have hpk : (psI g a i)[k]? = some (psI g a i)[k] := List.getElem?_eq_getElem hlk
                        have hpr := prodSteps_range (grOk_iff.1 HGO.out) HAO.out (List.getElem_mem hlk)
                        generalize (psI g a i)[k] = p at hpk hpr
                        have hnk : (nextI g a i)[k]? = some (psV a.accept.length p) := by rw [psI_next, List.getElem?_map, hpk]; rfl
                        have hvN := HNN.out i _ hlt (List.mem_of_getElem? hnk)
                        obtain ⟨b7, o7, rfl, hb70, hb71, r2, r3⟩ := HS7.out.ps hpk
                        have r2 := ocell hon r2 hb71 (.inr (by omega))
                        have r3 := ocell hon r3 hb71 (.inr (by omega))
                        obtain ⟨pst, z, q⟩ := p
                        simp only at r2 r3 hpr
                        obtain ⟨⟨hz0, hz1⟩, hq0, hq1⟩ := hpr
                        obtain ⟨z, rfl⟩ := Int.eq_ofNat_of_zero_le hz0
                        obtain ⟨q, rfl⟩ := Int.eq_ofNat_of_zero_le hq0
                        obtain ⟨vv, hvv⟩ : ∃ vv, vv = psV a.accept.length (pst, (z : Int), (q : Int)) := ⟨_, rfl⟩
                        have hvv2 : vv = z * a.accept.length + q := by rw [hvv]; simp [psV]
                        rw [← hvv] at hnk hvN
                        obtain ⟨zn, hzn⟩ : ∃ zn, zn = z * a.accept.length := ⟨_, rfl⟩
                        rw [← hzn] at hvv2
                        have m1' : (z : Int) * (a.accept.length : Int) = (zn : Int) := by rw [hzn, Int.natCast_mul]
                        have m2' : (zn : Int) + (q : Int) = (vv : Int) := by omega
                        have m1 : IntKind.i64.wrap ((z : Int) * (a.accept.length : Int)) = (zn : Int) := by rw [m1']; exact IntWalk.i64_in _ (by omega)
                        have m2 : IntKind.i64.wrap ((zn : Int) + (q : Int)) = (vv : Int) := by rw [m2']; exact IntWalk.i64_in _ (by omega)
                        have hvc := (World.ownsRow.cellAt HROW.out vv (by omega)).trans (flatI_at (getD_of (k := vv) (by have := HDL.out; omega)))
                        obtain ⟨dv, hdv⟩ : ∃ dv, dv = D.getD vv 0 := ⟨_, rfl⟩
                        rw [← hdv] at hvc
                        have HDV := Lib.hid hdv
                        have HNK := Lib.hid hnk
                        have m3' : (d : Int) - 1 = (e : Int) := by have := HDE.out; omega
                        have m3 : IntKind.i64.wrap ((d : Int) - 1) = (e : Int) := by rw [m3']; exact IntWalk.i64_in _ (by omega)
                        have hkk : (k : Int) < ((psI g a i).length : Int) := by omega
                        have hvi : (vv : Int) < (N : Int) := by omega
                        clear hvv hvv2 hzn hdv hnk hpk hvN
                        go_wp2_with fail
                        go_quiet (fail)
                        have hdi : i < D0.length := by rw [HSI.out.1]; exact hlt
                        by_cases hdd : dv = (e : Int)
                        · have k1 : (dv == (e : Int)) = true := by rw [hdd]; simp
                          have hit := HKI.out.hit hdi (by rw [← HXI.out]; exact hneg) HNK.out (by rw [← HDV.out]; exact hdd)
                          rw [show (e : Int) + 1 = (d : Int) by have := HDE.out; omega] at hit
                          have hkf := World.ownsRow.frozenAt HROW.out i
                          have hrow2 := (World.ownsRow.stored HROW.out i (.int .i64 (d : Int))).1
                          rw [flatI_set] at hrow2
                          have hon2 := hon.setCell (p := ⟨gD, i, none⟩) (.inl ⟨Nat.le_refl _, Nat.lt_succ_self _⟩) (.int .i64 (d : Int))
                          have HIT := Lib.hid hit
                          have HR2 := Lib.hid hrow2
                          have HON2 := Lib.hid hon2
                          clear hit hrow2 hon2 hdd m1 m2 m3 m1' m2' m3'
                          go_wp2_with fail
                          go_roundw
                          case rel => exact ⟨k + 1, _, true, by omega, rfl, by go_num, HIT.out, HR2.out, HON2.out.drewN _⟩
                          case measure => simp [intOf]; omega
                        · have k1 : (dv == (e : Int)) = false := by simpa using hdd
                          have hit := HKI.out.miss hdi (by rw [← HXI.out]; exact hneg) HNK.out (by rw [← HDV.out]; exact hdd)
                          have HIT := Lib.hid hit
                          clear hit hdd m1 m2 m3 m1' m2' m3'
                          go_wp2_with fail
                          go_roundw
                          case rel => exact ⟨k + 1, D, ch, by omega, rfl, by go_num, HIT.out, HROW.out, hon.drewN _⟩
                          case measure => simp [intOf]; omega
                      · have hfin := HKI.out.fin HSI.out hlt (.inr (by rw [← HXI.out]; exact hneg)) HNN.out
                        have HF := Lib.hid hfin
                        clear hfin
                        go_wp2_with fail
                        go_roundw
                        case rel => exact ⟨i + 1, D, ch, by omega, rfl, by go_num, HF.out, HCN.out, HROW.out, hon⟩
                        case measure => simp [intOf]; omega
                    · have hfin := HKI.out.fin HSI.out hlt (.inl (by have := HNL.out; omega)) HNN.out
                      obtain rfl : k = (psI g a i).length := by omega
                      have HF := Lib.hid hfin
                      clear hfin
                      go_wp2_with fail
                      go_roundw
                      case rel => exact ⟨i + 1, D, ch, by omega, rfl, by go_num, HF.out, HCN.out, HROW.out, hon⟩
                      case measure => simp [intOf]; omega
                · obtain rfl : N = i := by omega
                  have hsw := SW.leave HSI.out HCI.out HNN.out
                  have HSW := Lib.hid hsw
                  clear hsw
                  go_wp2_with fail
                  go_roundw
                  case rel => exact ⟨d + 1, e + 1, D0, ch0, by have := HDE.out; omega, rfl, by go_num, by omega, HSW.out, HROW.out, hon⟩
                  case measure => simp [intOf]; omega
end Go.Proofs.Ytlhpcknpjdeebaa

/- The reference's l14Ranks: the distances from a node, breadth first. -/
namespace Go.Proofs.Ytlhpcknpjdeebaa
set_option linter.unusedVariables false
set_option linter.unusedSimpArgs false
open Go.ChangeShapes Go.WideShapes Go.ChangeAt Go.RowKit
attribute [local go_sem] ext_cell ext_frozen ext_lt ext_lt1 ext_lt2 ext_lt3 ltn2 ltn3 ltn13 lts1 lts2 lts3

def distFrom (g : Gr) (a : Au) (x : Int) : List Int :=
  if (wi x 0 ((g.vals.length : Int) - 1) && (grOk g && auOk a)) = true then spreadR (g.vals.length * a.accept.length) (nextI g a) [x.toNat * a.accept.length + a.start.toNat] else []
theorem distFrom_len {g : Gr} {a : Au} {x : Int} (h : (wi x 0 ((g.vals.length : Int) - 1) && (grOk g && auOk a)) = true) : (distFrom g a x).length = g.vals.length * a.accept.length := by rw [distFrom, if_pos h, spreadR_len]
theorem flatN_atR {xs : List Nat} {t : Nat} {x : Nat} (h : xs[t]? = some x) : (xs.flatMap cN)[t]? = some (.int .i64 (x : Int)) := by
  have := flat_at cN_len h 0 _ rfl
  simpa using this
theorem SlI.grown {α : Type} {lo hi : Nat} {w w' : World} {E : α → List Value} {k : Nat} {v : Value} {xs : List α} (h : SlI lo hi w E k v xs) {row : Option Nat} (hg : w.grownBy w' row) (hh : hi ≤ w.heap.size) (hn : ∀ b, row = some b → b < lo ∨ hi ≤ b) : SlI lo hi w' E k v xs :=
  h.keep_ fun b o h1 h2 => World.cell?_of_block (w := w) (hg.block b (by omega) (fun e => by have := hn b e.symm; omega))
theorem ownsRow_far {w : World} {base k n : Nat} {e : TypeId} {v : Value} {cs : List Value} (h : w.ownsRow base e k v n cs) {p : Addr} (hp : p.block < base) (u : Value) : (w.setCell p u).ownsRow base e k v n cs :=
  ownsRow_block h fun g hg => Below.heap_setCell _ _ _ _ (by have := (h.lt g hg).1; omega)
end Go.Proofs.Ytlhpcknpjdeebaa

/- Plain: the answers from a node. -/
namespace Go.Proofs.Ytlhpcknpjdeebaa
set_option linter.unusedVariables false
set_option linter.unusedSimpArgs false
/-- vertex i is reached and accepts -/
def okV (g : Gr) (a : Au) (D : List Int) (i : Nat) : Bool := decide (0 ≤ D.getD i 0) && accC a (valAt g (i / a.accept.length)) (i % a.accept.length)
def ansM (g : Gr) (a : Au) (D : List Int) (k : Nat) : Nat := ((List.range k).filter (okV g a D)).foldl (fun m i => ins m (i / a.accept.length)) 0
def ansF (g : Gr) (a : Au) (D : List Int) (k : Nat) : List Int := ((List.range k).filter (okV g a D)).map fun (i : Nat) => ((i / a.accept.length : Nat) : Int)
theorem ansM_yes {g : Gr} {a : Au} {D : List Int} {k : Nat} (h : okV g a D k = true) : ansM g a D (k + 1) = ins (ansM g a D k) (k / a.accept.length) := by
  simp [ansM, List.range_succ, List.filter_append, h]
theorem ansM_no {g : Gr} {a : Au} {D : List Int} {k : Nat} (h : okV g a D k = false) : ansM g a D (k + 1) = ansM g a D k := by
  simp [ansM, List.range_succ, List.filter_append, h]
theorem ansF_yes {g : Gr} {a : Au} {D : List Int} {k : Nat} (h : okV g a D k = true) : ansF g a D (k + 1) = ansF g a D k ++ [((k / a.accept.length : Nat) : Int)] := by
  simp [ansF, List.range_succ, List.filter_append, h]
theorem ansF_no {g : Gr} {a : Au} {D : List Int} {k : Nat} (h : okV g a D k = false) : ansF g a D (k + 1) = ansF g a D k := by
  simp [ansF, List.range_succ, List.filter_append, h]
theorem ansF_len (g : Gr) (a : Au) (D : List Int) (k : Nat) : (ansF g a D k).length ≤ k := by
  unfold ansF
  rw [List.length_map]
  exact Nat.le_trans (List.length_filter_le _ _) (by simp)
theorem foldl_ins_nat (f : Nat → Nat) (l : List Nat) (m t : Nat) : (l.foldl (fun m i => ins m (f i)) m).testBit t = (m.testBit t || l.any (fun i => decide (f i = t))) := by
  induction l generalizing m with
  | nil => simp
  | cons x l ih => rw [List.foldl_cons, ih, ins_test, List.any_cons, Bool.or_assoc]
theorem ansM_test (g : Gr) (a : Au) (D : List Int) (k t : Nat) : (ansM g a D k).testBit t = true ↔ ∃ i, i < k ∧ okV g a D i = true ∧ i / a.accept.length = t := by
  unfold ansM
  rw [foldl_ins_nat]
  simp only [Nat.zero_testBit, Bool.false_or, List.any_eq_true, List.mem_filter, List.mem_range, decide_eq_true_eq]
  constructor
  · rintro ⟨i, ⟨h1, h2⟩, h3⟩; exact ⟨i, h1, h2, h3⟩
  · rintro ⟨i, h1, h2, h3⟩; exact ⟨i, ⟨h1, h2⟩, h3⟩
theorem ansM_lt {g : Gr} {a : Au} {D : List Int} {k n : Nat} (h : k ≤ n * a.accept.length) : ansM g a D k < 2 ^ n := by
  refine Nat.lt_pow_two_of_testBit _ fun t ht => ?_
  cases hb : (ansM g a D k).testBit t with
  | false => rfl
  | true =>
    obtain ⟨i, hi, _, rfl⟩ := (ansM_test ..).1 hb
    have : i / a.accept.length < n := Nat.div_lt_of_lt_mul (by rw [Nat.mul_comm]; omega)
    omega
/-- the answers from x, in ascending order -/
def ansL (g : Gr) (a : Au) (x : Int) : List Int :=
  if (wi x 0 ((g.vals.length : Int) - 1) && (grOk g && auOk a)) = true then memI 30 (ansM g a (distFrom g a x) (g.vals.length * a.accept.length)) else []
theorem ansL_asc {g : Gr} {a : Au} {x : Int} (h : (wi x 0 ((g.vals.length : Int) - 1) && (grOk g && auOk a)) = true) : ascL (ansF g a (distFrom g a x) (g.vals.length * a.accept.length)) = ansL g a x := by
  rw [ansL, if_pos h]
  refine asc_uniq (ascL_spec _).1 (memI_asc _ _) fun y => ?_
  rw [(ascL_spec _).2 y, mem_memI]
  simp only [Bool.and_eq_true] at h
  have hn5 := (grOk_iff.1 h.2.1).n5
  unfold ansF
  simp only [List.mem_map, List.mem_filter, List.mem_range]
  constructor
  · rintro ⟨i, ⟨hi, ho⟩, rfl⟩
    have : i / a.accept.length < g.vals.length := Nat.div_lt_of_lt_mul (by rw [Nat.mul_comm]; exact hi)
    exact ⟨i / a.accept.length, rfl, Nat.lt_of_lt_of_le this (by omega), (ansM_test ..).2 ⟨i, hi, ho, rfl⟩⟩
  · rintro ⟨t, rfl, _, ht⟩
    obtain ⟨i, hi, ho, rfl⟩ := (ansM_test ..).1 ht
    exact ⟨i, ⟨hi, ho⟩, rfl⟩
theorem ansL_range {g : Gr} {a : Au} {x y : Int} (h : y ∈ ansL g a x) : 0 ≤ y ∧ y < (g.vals.length : Int) := by
  unfold ansL at h
  split at h
  · obtain ⟨t, rfl, _, ht⟩ := mem_memI.1 h
    obtain ⟨i, hi, _, rfl⟩ := (ansM_test ..).1 ht
    have : i / a.accept.length < g.vals.length := Nat.div_lt_of_lt_mul (by rw [Nat.mul_comm]; exact hi)
    exact ⟨Int.natCast_nonneg _, Int.ofNat_lt.2 this⟩
  · cases h
theorem ansL_len (g : Gr) (a : Au) (x : Int) : (ansL g a x).length ≤ 30 := by
  unfold ansL
  split
  · unfold memI; rw [List.length_map]; exact mem_len _ _
  · simp
def hasAns (g : Gr) (a : Au) (x y : Int) : Bool := (ansL g a x).contains y
section
open Go.ChangeShapes Go.WideShapes Go.ChangeAt Go.RowKit
theorem SlI.intI {lo hi : Nat} {w : World} {A : Option Addr} {n c : Nat} {xs : List Int} (h : SlI lo hi w cI 1 (.slice A n c) xs) {i : Nat} {x : Int} (hx : xs[i]? = some x) :
    ∃ b o, A = some ⟨b, o, none⟩ ∧ lo ≤ b ∧ b < hi ∧ w.cell? ⟨b, o + i, none⟩ = some (.int .i64 x) := by
  obtain ⟨A', c', hv, _, _, h3⟩ := h
  injection hv with h1 _ _
  subst h1
  obtain ⟨b, o, e, g1, g2, hc⟩ := h3 i x hx
  exact ⟨b, o, e, g1, g2, by simpa using hc 0 _ rfl⟩
end
end Go.Proofs.Ytlhpcknpjdeebaa

/- The program's counter: what it holds, the place behind a step, and the count with its memory. -/
namespace Go.Proofs.Ytlhpcknpjdeebaa
set_option linter.unusedVariables false
set_option linter.unusedSimpArgs false
open Go.ChangeShapes Go.WideShapes Go.ChangeAt Go.RowKit Go.Maps
attribute [local go_sem] ext_cell ext_frozen ext_lt ext_lt1 ext_lt2 ext_lt3 ltn2 ltn3 ltn13 lts1 lts2 lts3

theorem ownsMap_at {H : Type} {P : Program} {k : TypeId} {R : Value → Option (DataW H × List MemPlace)} {w w' : World} {b n : Nat} {D : DataW H} (h : w.ownsMap P k R b n D) (hb : w'.heap[b]? = w.heap[b]?) : w'.ownsMap P k R b n D := by
  obtain ⟨es, clock, h1, h2⟩ := h
  exact ⟨es, clock, hb.trans h1, h2⟩
/-- 'm[k] = v', at the operation -/
theorem op_mapUpdate_own {H : Type} {P : Program} (w : World) {o : Oper} {a : Act} {K : Act → World → Prop} {Q : Exit → Act → World → Prop}
    (m x v : Operand) (t : TypeId) (hop : o.op = Op.mapUpdate t m x v)
    (k e : TypeId) (KK : Keyed P k) (ht : P.underlying t = some (.map k e)) (R : Value → Option (DataW H × List MemPlace)) (b n : Nat) (D : DataW H)
    (hm : a.eval m = .map (some b)) (hown : w.ownsMap P k R b n D) (hn : n < maxLen) (key val : Value) (kl : Lit) (hx : a.eval x = key) (hv : a.eval v = val) (hkey : keyOf P k key = some kl)
    (d : DataW H) (ps : List MemPlace) (hval : R val = some (d, ps))
    (hK : ∀ w', w'.ownsMap P k R b (n + 1) (D.put kl d) → w.grownBy w' (some b) → K (a.put o.dst undef) w') : Oper.wp P o a w K Q := by
  obtain ⟨w', hrun, r1, r2⟩ := hown.update KK ht hn hkey hval
  unfold Oper.wp
  simp [execOp, hop, hm, hx, hv, hrun, Result.andThen]
  exact hK w' r1 r2
/-- the counter in block bC; its memory is the map in block bM -/
def Ctr (g : Gr) (a : Au) (y : Int) (w : World) (bC bM : Nat) : Prop :=
  ∃ (B lo hi : Nat) (A1 A2 A3 A4 A5 : Option Addr) (c1 c2 c3 c4 c5 : Nat),
    Blk w bC 102 #[.slice A1 g.vals.length c1, .slice A2 g.edges.length c2, .int .i64 a.start, .slice A3 a.accept.length c3, .slice A4 a.accept.length c4, .int .i64 y, .slice A5 g.vals.length c5, .map (some bM)] ∧
    GrV 0 B w (.agg #[.slice A1 g.vals.length c1, .slice A2 g.edges.length c2]) g ∧ AuV 0 B w (.agg #[.int .i64 a.start, .slice A3 a.accept.length c3, .slice A4 a.accept.length c4]) a ∧
    SSE lo hi w cA 4 (.slice A5 g.vals.length c5) ((List.range g.vals.length).map fun (x : Nat) => arcsOf g (x : Int)) ∧ B ≤ bM ∧ (hi ≤ bM ∨ bM < lo) ∧ hi ≤ w.heap.size ∧ B ≤ w.heap.size ∧ bC ≠ bM
theorem Ctr.only {g : Gr} {a : Au} {y : Int} {w w' : World} {bC bM : Nat} (h : Ctr g a y w bC bM) (ho : Only bM (bM + 1) w w') : Ctr g a y w' bC bM := by
  obtain ⟨B, lo, hi, A1, A2, A3, A4, A5, c1, c2, c3, c4, c5, h1, h2, h3, h4, h5, h6, h7, h8, h9⟩ := h
  have hs := ho.size
  exact ⟨B, lo, hi, A1, A2, A3, A4, A5, c1, c2, c3, c4, c5, h1.only ho (by omega), h2.only ho h8 (.inl h5), h3.only ho h8 (.inl h5), h4.only ho h7 (by omega), h5, h6, by omega, by omega, h9⟩
theorem Ctr.keep {g : Gr} {a : Au} {y : Int} {w w' : World} {bC bM : Nat} (h : Ctr g a y w bC bM) (hb : Below w.heap.size w w') : Ctr g a y w' bC bM := h.only (Only.of_below hb _ _)
theorem Ctr.lt {g : Gr} {a : Au} {y : Int} {w : World} {bC bM : Nat} (h : Ctr g a y w bC bM) : bC < w.heap.size := by
  obtain ⟨B, lo, hi, A1, A2, A3, A4, A5, c1, c2, c3, c4, c5, h1, -⟩ := h
  exact h1.lt
theorem valOf {g : Gr} (hgo : grOk g = true) {x : Nat} (hx : x < g.vals.length) : ∃ vx : Nat, g.vals[x]? = some (vx : Int) ∧ valAt g x = vx ∧ vx ≤ 2 := by
  have hxi : g.vals[x]? = some g.vals[x] := List.getElem?_eq_getElem hx
  have hvr := (grOk_iff.1 hgo).vals _ (List.getElem_mem hx)
  obtain ⟨vx, hvx⟩ := Int.eq_ofNat_of_zero_le hvr.1
  refine ⟨vx, by rw [hxi, hvx], ?_, by omega⟩
  have := valAt_of hxi
  rw [this, hvx, Int.toNat_natCast]
/-- the memory, and what the counter's calls do to it: places of at most f steps come in -/
def Mem (g : Gr) (a : Au) (y : Int) (w : World) (bM : Nat) (M : List Plc) : Prop := ∃ D : DataW Unit, w.ownsMap Try.prog 82 (plainElem Try.prog 3) bM M.length D ∧ MemD g a y D M
theorem Mem.keep {g : Gr} {a : Au} {y : Int} {w w' : World} {bM : Nat} {M : List Plc} (h : Mem g a y w bM M) (hb : Below w.heap.size w w') : Mem g a y w' bM M := by
  obtain ⟨D, h1, h2⟩ := h
  exact ⟨D, ownsMap_at h1 (hb.block _ h1.lt), h2⟩
def More (f : Nat) (M M' : List Plc) : Prop := ∃ T, M' = M ++ T ∧ ∀ z ∈ T, z.2.2 ≤ f
theorem More.refl (f : Nat) (M : List Plc) : More f M M := ⟨[], by simp, fun z hz => by cases hz⟩
theorem More.trans {f : Nat} {M M' M'' : List Plc} (h : More f M M') (h' : More f M' M'') : More f M M'' := by
  obtain ⟨T, rfl, h1⟩ := h
  obtain ⟨T', rfl, h2⟩ := h'
  exact ⟨T ++ T', by rw [List.append_assoc], fun z hz => by rcases List.mem_append.1 hz with h | h; exact h1 z h; exact h2 z h⟩
theorem More.mono {f f' : Nat} {M M' : List Plc} (h : More f M M') (hf : f ≤ f') : More f' M M' := by
  obtain ⟨T, h1, h2⟩ := h
  exact ⟨T, h1, fun z hz => Nat.le_trans (h2 z hz) hf⟩
set_option maxHeartbeats 2000000 in
set_option maxRecDepth 100000 in
theorem next_any (g : Gr) (a : Au) (y : Int) (hgo : grOk g = true) (ha : auOk a = true) (bC bM x s lf l : Nat) (t : Int) (sid : Int) (sinv : Bool) (w : World) (hc : Ctr g a y w bC bM) (hx : x < g.vals.length) (hs : s < 2 ^ a.accept.length) (hlf : lf ≤ 60) (hl : l < 9) :
    Calls Try.prog 64 #[.pointer (some ⟨bC, 0, none⟩), .agg #[.int .i64 (x : Int), .int .i64 (s : Int), .int .i64 ((lf + 1 : Nat) : Int)], .agg #[.int .i64 sid, .bool sinv, .int .i64 (l : Int), .int .i64 t]] w fun e w' =>
      e = .returned (.agg #[.int .i64 t, .int .i64 (aft a s (valAt g x) l : Nat), .int .i64 (lf : Int)]) ∧ Below w.heap.size w w' := by
  obtain ⟨B, lo, hi, A1, A2, A3, A4, A5, c1, c2, c3, c4, c5, hbk, hgv, hav, hlv, h5, h6, h7, h8, h9⟩ := hc
  obtain ⟨vx, hxi, hva, hvx⟩ := valOf hgo hx
  obtain ⟨vs, es, hag, h1, -⟩ := hgv
  injection hag with hag
  simp at hag
  obtain ⟨rfl, rfl⟩ := hag
  obtain ⟨b1, o1, rfl, -, hb1, dv⟩ := h1.intI hxi
  have hs4 := lt12 ha hs
  rw [hva]
  have z0 : w.cell? ⟨bC, 0, none⟩ = some (.slice (some ⟨b1, o1, none⟩) g.vals.length c1) := hbk.cell 0
  have z2 : w.cell? ⟨bC, 2, none⟩ = some (.int .i64 a.start) := hbk.cell 2
  have z3 : w.cell? ⟨bC, 3, none⟩ = some (.slice A3 a.accept.length c3) := hbk.cell 3
  have z4 : w.cell? ⟨bC, 4, none⟩ = some (.slice A4 a.accept.length c4) := hbk.cell 4
  have lC := hbk.lt
  have hb1w : b1 < w.heap.size := by omega
  have hxx : (x : Int) < (g.vals.length : Int) := by omega
  have HAF := Lib.hid (fun (W : World) (hW : Below w.heap.size w W) => after_any _ a s vx l W ((hav.mono (Nat.le_refl _) h8).keep hW) ha hs hvx hl)
  obtain ⟨M, hM⟩ : ∃ M, M = aft a s vx l := ⟨_, rfl⟩
  rw [← hM] at HAF ⊢
  obtain ⟨L1, hL1⟩ : ∃ L1, L1 = lf + 1 := ⟨_, rfl⟩
  rw [← hL1]
  have hL1a : lf + 1 ≤ L1 := by omega
  have hL1b : L1 ≤ lf + 1 := by omega
  have ql : IntKind.i64.wrap ((L1 : Int) - 1) = (lf : Int) := by rw [IntWalk.i64_in _ (by omega)]; omega
  clear hbk hav hlv h1 hxi hva hM hL1 hgo ha
  have lts : ∀ b, b < w.heap.size → b < w.heap.size + 1 + 1 + 1 := fun b h => by omega
  have lC1 : bC < w.heap.size + 1 := by omega
  have lC2 : bC < w.heap.size + 1 + 1 := by omega
  have lC3 : bC < w.heap.size + 1 + 1 + 1 := by omega
  have lb1 : b1 < w.heap.size + 1 := by omega
  have lb2 : b1 < w.heap.size + 1 + 1 := by omega
  have lb3 : b1 < w.heap.size + 1 + 1 + 1 := by omega
  clear lts
  go_enter Try.func64, Try.ntmps64
  go_wp2_with fail
  refine wp_region_ext_tail 24 (by kernel_rfl) (by kernel_rfl) ?_
  simp only [List.take_succ_cons, List.take_zero]
  repeat (go_big_quiet_step ((go_at_call 85; exact Calls.ext_of (HAF.out _ (by repeat (first | exact Below.refl _ _ | assumption | refine Below.alloc ?_ (by simp <;> omega) _ | refine Below.drew ?_ | refine below_ext ?_ (by simp <;> omega) _ | exact ext_below _ _))))))
  refine wpQuiet_nil ?_
  intro _ hw'
  obtain ⟨u2, hw''⟩ := hw'
  subst hw''
  simp only [List.drop_succ_cons, List.drop_zero]
  go_wp2_with fail
  refine bodyPost_ret (v := .agg #[.int .i64 t, .int .i64 (M : Int), .int .i64 (lf : Int)]) (by simp [results, Try.results64, go_sem]) rfl ⟨rfl, ?_⟩
  repeat (first | exact Below.refl _ _ | refine Below.setCell ?_ (by simp <;> omega) _ | refine Below.alloc ?_ (by simp <;> omega) _ | refine below_ext ?_ (by simp <;> omega) _)
end Go.Proofs.Ytlhpcknpjdeebaa

