/- Parts of the proof, joined into one text: ShortS, HelpWalk, WalksS, KeyP, MemD, ArcM, GraphI. -/
import Derived.Test.YtgdgelkeflihpaaPartKCADONLI
import Derived.Test.YtgdgelkeflihpaaPartPIKGAJJF
import Derived.Test.YtgdgelkeflihpaaPartNCOADNPI
import Derived.Test.YtgdgelkeflihpaaPartCLIOLNGG
import Derived.Test.YtgdgelkeflihpaaPartGPKKMHKD
import Derived.Maps.OwnSet
import Derived.DeepKeys4
import Derived.Test.YtgdgelkeflihpaaPartJCLCPPHB
import Derived.Maps.Views
import Derived.Test.YtgdgelkeflihpaaPartAAOKINFK
import Derived.Test.YtgdgelkeflihpaaPartHDNEGFCA
/- The reference's ShortestLength. -/
namespace Go.Proofs.Ytgdgelkeflihpaa
set_option linter.unusedVariables false
set_option linter.unusedSimpArgs false
open Go.ChangeShapes Go.WideShapes Go.ChangeAt Go.RowKit
attribute [local go_sem] ext_cell ext_frozen ext_lt ext_lt1 ext_lt2 ext_lt3 ltn2 ltn3 ltn13 lts1 lts2 lts3

theorem goodB0 (g : Gr) (a : Au) (x : Int) : goodB g a x 0 = (grOk g && (auOk a && wi x 0 ((g.vals.length : Int) - 1))) := by
  unfold goodB
  cases h : auOk a with
  | false => simp
  | true =>
    have h1 := (auOk_iff.1 h).1.1
    have h2 : wi 0 0 ((a.accept.length : Int) - 1) = true := wi_iff.2 (by omega)
    rw [h2]
    simp
set_option maxHeartbeats 4000000 in
set_option maxRecDepth 100000 in
theorem specShortestLength (vg va : Value) (g : Gr) (a : Au) (x y : Int) (w : World) (hgv : GrV 0 w.heap.size w vg g) (hav : AuV 0 w.heap.size w va a) :
    Calls Try.prog 82 #[vg, va, .int .i64 x, .int .i64 y] w fun e w' => e = .returned (.int .i64 (shortLen g a x y)) ∧ Below w.heap.size w w' := by
  have hgv0 := hgv
  have hav0 := hav
  obtain ⟨A1, n1, c1, A2, n2, c2, rfl⟩ := hgv.shape
  obtain ⟨ac, nx, rfl, hac, hnx⟩ := hav
  obtain ⟨A3, c3, rfl, -, -, -⟩ := SlE.form hac
  obtain ⟨A4, n4, c4, rfl⟩ := hnx.shape
  have hb0 : Below w.heap.size w ((w.alloc (.cells #[.slice A1 n1 c1, .slice A2 n2 c2] 45)).alloc (.cells #[.int .i64 a.start, .slice A3 a.accept.length c3, .slice A4 n4 c4] 29)) := ((Below.refl _ _).alloc (Nat.le_refl _) _).alloc (by simp) _
  have HGV := Lib.hid hgv0
  have HAV := Lib.hid hav0
  clear hgv hac hnx hgv0 hav0
  go_enter Try.func82, Try.ntmps82
  go_wp2_with fail
  obtain ⟨W0, hW0⟩ : ∃ W0, W0 = ((w.alloc (.cells #[.slice A1 n1 c1, .slice A2 n2 c2] 45)).alloc (.cells #[.int .i64 a.start, .slice A3 a.accept.length c3, .slice A4 n4 c4] 29)) := ⟨_, rfl⟩
  rw [← hW0] at hb0 ⊢
  have x0 : W0.cell? ⟨w.heap.size, 0, none⟩ = some (.slice A1 n1 c1) := by rw [hW0]; simp
  have x1 : W0.cell? ⟨w.heap.size, 1, none⟩ = some (.slice A2 n2 c2) := by rw [hW0]; simp
  have y0 : W0.cell? ⟨w.heap.size + 1, 0, none⟩ = some (.int .i64 a.start) := by rw [hW0]; simp
  have y1 : W0.cell? ⟨w.heap.size + 1, 1, none⟩ = some (.slice A3 a.accept.length c3) := by rw [hW0]; simp
  have y2 : W0.cell? ⟨w.heap.size + 1, 2, none⟩ = some (.slice A4 n4 c4) := by rw [hW0]; simp
  have hs0 : w.heap.size + 1 + 1 = W0.heap.size := by rw [hW0]; simp
  try rw [hs0]
  have l0 : w.heap.size + 1 < W0.heap.size := by omega
  have l00 : w.heap.size < W0.heap.size := by omega
  clear hW0 hs0
  have hgx := l14Good_any _ _ g a x 0 W0 (HGV.out.keep hb0) (HAV.out.keep hb0)
  have HGX := Lib.hid hgx
  clear hgx
  cases hk : goodB g a x 0 with
  | false =>
    rw [hk] at HGX
    have hfin : shortLen g a x y = -1 := by
      unfold shortLen
      rw [if_neg]
      intro h
      rw [goodB0] at hk
      simp only [Bool.and_eq_true] at h
      simp [h] at hk
    have HF := Lib.hid hfin
    clear hk hfin
    refine HGX.out.mono ?_
    rintro e w1 ⟨rfl, hb1⟩
    go_wp2_with fail
    go_ret
    exact ⟨by rw [HF.out]; rfl, below_trans hb0 hb1⟩
  | true =>
    rw [hk] at HGX
    have HK := Lib.hid hk
    clear hk
    refine HGX.out.mono ?_
    rintro e w1 ⟨rfl, hb1⟩
    have hb2 := below_trans hb0 hb1
    have x0 := kcell hb1 x0
    have x1 := kcell hb1 x1
    have y0 := kcell hb1 y0
    have y1 := kcell hb1 y1
    have y2 := kcell hb1 y2
    have l0 := Nat.lt_of_lt_of_le l0 hb1.size
    have l00 := Nat.lt_of_lt_of_le l00 hb1.size
    have hgy := l14Good_any _ _ g a y 0 w1 (HGV.out.keep hb2) (HAV.out.keep hb2)
    have HGY := Lib.hid hgy
    clear hgy
    cases hk : goodB g a y 0 with
    | false =>
      rw [hk] at HGY
      have hfin : shortLen g a x y = -1 := by
        unfold shortLen
        rw [if_neg]
        intro h
        rw [goodB0] at hk
        simp only [Bool.and_eq_true] at h
        simp [h] at hk
      have HF := Lib.hid hfin
      clear hk hfin
      go_wp2_with fail
      refine HGY.out.mono ?_
      rintro e w3 ⟨rfl, hb3⟩
      go_wp2_with fail
      go_ret
      exact ⟨by rw [HF.out]; rfl, below_trans hb2 hb3⟩
    | true =>
      rw [hk] at HGY
      rw [goodB0] at hk
      have hk2 := HK.out
      rw [goodB0] at hk2
      simp only [Bool.and_eq_true, wi_iff] at hk hk2
      obtain ⟨hgo, hao, hy0, hy1⟩ := hk
      obtain ⟨-, -, hx0, hx1⟩ := hk2
      have hdl := distTo_len (g := g) (a := a) (y := y) (by simp [wi_iff, hy0, hy1, hgo, hao])
      obtain ⟨x, rfl⟩ := Int.eq_ofNat_of_zero_le hx0
      obtain ⟨y, rfl⟩ := Int.eq_ofNat_of_zero_le hy0
      have hst0 := (auOk_iff.1 hao).2.1
      have hm12 := (auOk_iff.1 hao).1.2
      have hn5 := (grOk_iff.1 hgo).n5
      obtain ⟨xn, hxn⟩ : ∃ xn, xn = x * a.accept.length := ⟨_, rfl⟩
      have hxn2 : xn + a.accept.length ≤ g.vals.length * a.accept.length := by rw [hxn]; have := Nat.mul_le_mul_right a.accept.length (show x + 1 ≤ g.vals.length by omega); rw [Nat.succ_mul] at this; exact this
      have hN60 : g.vals.length * a.accept.length ≤ 60 := by have := Nat.mul_le_mul hn5 hm12; omega
      rw [← hdl] at hxn2 hN60
      obtain ⟨ix, hix⟩ : ∃ ix : Nat, (ix : Int) = (xn : Int) + a.start := ⟨(xn + a.start.toNat), by omega⟩
      have hixl : ix < (distTo g a (y : Int)).length := by omega
      have hfin : shortLen g a (x : Int) (y : Int) = (distTo g a (y : Int)).getD ix 0 := by
        unfold shortLen
        rw [if_pos (by simp [wi_iff, hx0, hx1, hy0, hy1, hgo, hao]), Int.toNat_natCast, ← hxn]
        congr 1
        omega
      have hget := getD_of hixl
      have q1' : (x : Int) * (a.accept.length : Int) = (xn : Int) := by rw [hxn, Int.natCast_mul]
      have q1 : IntKind.i64.wrap ((x : Int) * (a.accept.length : Int)) = (xn : Int) := by rw [q1']; exact IntWalk.i64_in _ (by omega)
      have q2 : IntKind.i64.wrap ((xn : Int) + a.start) = (ix : Int) := by rw [← hix]; exact IntWalk.i64_in _ (by omega)
      have q2' : (xn : Int) + a.start = (ix : Int) := hix.symm
      have q5 : IntKind.i64.wrap (xn : Int) = (xn : Int) := IntWalk.i64_in _ (by omega)
      have q6 : IntKind.i64.wrap (ix : Int) = (ix : Int) := IntWalk.i64_in _ (by omega)
      have hixi : (ix : Int) < ((distTo g a (y : Int)).length : Int) := by omega
      have hix0 : (0 : Int) ≤ (ix : Int) := by omega
      have hyl : y < g.vals.length := by omega
      have HF := Lib.hid hfin
      have HGET := Lib.hid hget
      have Q1 := Lib.hid q1
      have Q1' := Lib.hid q1'
      have Q2 := Lib.hid q2
      have Q2' := Lib.hid q2'
      have Q5 := Lib.hid q5
      have Q6 := Lib.hid q6
      have HGO := Lib.hid hgo
      have HAO := Lib.hid hao
      clear hget hfin hxn hix hgo hao hdl hx0 hx1 hy0 hy1 hst0 q1 q1' q2 q2' q5 q6
      go_wp2_with fail
      refine HGY.out.mono ?_
      rintro e w3 ⟨rfl, hb3⟩
      have hb4 := below_trans hb2 hb3
      have x0 := kcell hb3 x0
      have x1 := kcell hb3 x1
      have y0 := kcell hb3 y0
      have y1 := kcell hb3 y1
      have y2 := kcell hb3 y2
      clear hb0 hb1 hb2 hb3 HGY HGX HK
      go_wp2_with fail
      have q1 := Q1.out
      have q1' := Q1'.out
      have q2 := Q2.out
      have q2' := Q2'.out
      have q5 := Q5.out
      have q6 := Q6.out
      refine F_start 14 (fun w' => w'.cell? ⟨w.heap.size, 0, none⟩ = some (.slice A1 n1 c1) ∧ w'.cell? ⟨w.heap.size, 1, none⟩ = some (.slice A2 n2 c2) ∧ w'.cell? ⟨w.heap.size + 1, 0, none⟩ = some (.int .i64 a.start) ∧ w'.cell? ⟨w.heap.size + 1, 1, none⟩ = some (.slice A3 a.accept.length c3) ∧ w'.cell? ⟨w.heap.size + 1, 2, none⟩ = some (.slice A4 n4 c4)) (by kernel_rfl) (by exact ⟨x0, x1, y0, y1, y2⟩) (fun hS inv => ?_)
      refine F_take (i := 0) (v := ?_) rfl (by kernel_rfl) (by kernel_rfl) (by kernel_rfl) (fun _ _ _ h => h) inv (Or.inl ⟨by rfl, ?_⟩) (by assumption) (fun invn => ?_)
      rotate_left
      · (intro w hSw; (try dsimp only at hSw); go_simp; try with_reducible rfl)
      try simp only [List.getElem_toArray, List.getElem_cons_zero, List.getElem_cons_succ, Act.put, List.setIfInBounds_toArray, List.set_cons_zero, List.set_cons_succ]
      clear inv
      have inv := invn
      clear invn
      refine F_take (i := 1) (v := ?_) rfl (by kernel_rfl) (by kernel_rfl) (by kernel_rfl) (fun _ _ _ h => h) inv (Or.inl ⟨by rfl, ?_⟩) (by assumption) (fun invn => ?_)
      rotate_left
      · (intro w hSw; (try dsimp only at hSw); go_simp; try with_reducible rfl)
      try simp only [List.getElem_toArray, List.getElem_cons_zero, List.getElem_cons_succ, Act.put, List.setIfInBounds_toArray, List.set_cons_zero, List.set_cons_succ]
      clear inv
      have inv := invn
      clear invn
      refine F_take (i := 2) (v := ?_) rfl (by kernel_rfl) (by kernel_rfl) (by kernel_rfl) (fun _ _ _ h => h) inv (Or.inl ⟨by rfl, ?_⟩) (by assumption) (fun invn => ?_)
      rotate_left
      · (intro w hSw; (try dsimp only at hSw); go_simp; try with_reducible rfl)
      try simp only [List.getElem_toArray, List.getElem_cons_zero, List.getElem_cons_succ, Act.put, List.setIfInBounds_toArray, List.set_cons_zero, List.set_cons_succ]
      clear inv
      have inv := invn
      clear invn
      refine F_take (i := 4) (v := ?_) rfl (by kernel_rfl) (by kernel_rfl) (by kernel_rfl) (fun _ _ _ h => h) inv (Or.inl ⟨by rfl, ?_⟩) (by assumption) (fun invn => ?_)
      rotate_left
      · (intro w hSw; (try dsimp only at hSw); go_simp; try with_reducible rfl)
      try simp only [List.getElem_toArray, List.getElem_cons_zero, List.getElem_cons_succ, Act.put, List.setIfInBounds_toArray, List.set_cons_zero, List.set_cons_succ]
      clear inv
      have inv := invn
      clear invn
      refine F_take (i := 5) (v := ?_) rfl (by kernel_rfl) (by kernel_rfl) (by kernel_rfl) (fun _ _ _ h => h) inv (Or.inl ⟨by rfl, ?_⟩) (by assumption) (fun invn => ?_)
      rotate_left
      · (intro w hSw; (try dsimp only at hSw); go_simp; try with_reducible rfl)
      try simp only [List.getElem_toArray, List.getElem_cons_zero, List.getElem_cons_succ, Act.put, List.setIfInBounds_toArray, List.set_cons_zero, List.set_cons_succ]
      clear inv
      have inv := invn
      clear invn
      refine F_take (i := 6) (v := ?_) rfl (by kernel_rfl) (by kernel_rfl) (by kernel_rfl) (fun _ _ _ h => h) inv (Or.inl ⟨by rfl, ?_⟩) (by assumption) (fun invn => ?_)
      rotate_left
      · (intro w hSw; (try dsimp only at hSw); go_simp; try with_reducible rfl)
      try simp only [List.getElem_toArray, List.getElem_cons_zero, List.getElem_cons_succ, Act.put, List.setIfInBounds_toArray, List.set_cons_zero, List.set_cons_succ]
      clear inv
      have inv := invn
      clear invn
      refine F_take (i := 7) (v := ?_) rfl (by kernel_rfl) (by kernel_rfl) (by kernel_rfl) (fun _ _ _ h => h) inv (Or.inl ⟨by rfl, ?_⟩) (by assumption) (fun invn => ?_)
      rotate_left
      · (intro w hSw; (try dsimp only at hSw); go_simp; try with_reducible rfl)
      try simp only [List.getElem_toArray, List.getElem_cons_zero, List.getElem_cons_succ, Act.put, List.setIfInBounds_toArray, List.set_cons_zero, List.set_cons_succ]
      clear inv
      have inv := invn
      clear invn
      refine F_take (i := 8) (v := ?_) rfl (by kernel_rfl) (by kernel_rfl) (by kernel_rfl) (fun _ _ _ h => h) inv (Or.inl ⟨by rfl, ?_⟩) (by assumption) (fun invn => ?_)
      rotate_left
      · (intro w hSw; (try dsimp only at hSw); go_simp; try with_reducible rfl)
      try simp only [List.getElem_toArray, List.getElem_cons_zero, List.getElem_cons_succ, Act.put, List.setIfInBounds_toArray, List.set_cons_zero, List.set_cons_succ]
      clear inv
      have inv := invn
      clear invn
      refine F_take (i := 9) (v := ?_) rfl (by kernel_rfl) (by kernel_rfl) (by kernel_rfl) (fun _ _ _ h => h) inv (Or.inl ⟨by rfl, ?_⟩) (by assumption) (fun invn => ?_)
      rotate_left
      · (intro w hSw; (try dsimp only at hSw); go_simp; try with_reducible rfl)
      try simp only [List.getElem_toArray, List.getElem_cons_zero, List.getElem_cons_succ, Act.put, List.setIfInBounds_toArray, List.set_cons_zero, List.set_cons_succ]
      clear inv
      have inv := invn
      clear invn
      refine F_take (i := 10) (v := ?_) rfl (by kernel_rfl) (by kernel_rfl) (by kernel_rfl) (fun _ _ _ h => h) inv (Or.inl ⟨by rfl, ?_⟩) (by assumption) (fun invn => ?_)
      rotate_left
      · (intro w hSw; (try dsimp only at hSw); go_simp; try with_reducible rfl)
      try simp only [List.getElem_toArray, List.getElem_cons_zero, List.getElem_cons_succ, Act.put, List.setIfInBounds_toArray, List.set_cons_zero, List.set_cons_succ]
      clear inv
      have inv := invn
      clear invn
      refine F_take (i := 11) (v := ?_) rfl (by kernel_rfl) (by kernel_rfl) (by kernel_rfl) (fun _ _ _ h => h) inv (Or.inl ⟨by rfl, ?_⟩) (by assumption) (fun invn => ?_)
      rotate_left
      · (intro w hSw; (try dsimp only at hSw); go_simp; try with_reducible rfl)
      try simp only [List.getElem_toArray, List.getElem_cons_zero, List.getElem_cons_succ, Act.put, List.setIfInBounds_toArray, List.set_cons_zero, List.set_cons_succ]
      clear inv
      have inv := invn
      clear invn
      refine F_one (i := 3) (by kernel_rfl) rfl rfl (by omega) inv (fun K hK => ?_)
      try simp only [List.getElem_toArray, List.getElem_cons_zero, List.getElem_cons_succ]
      go_simp
      refine (l14Back_any _ _ g a y _ (GrV.keep (w' := w3.drew) HGV.out hb4.drew) (AuV.keep (w' := w3.drew) HAV.out hb4.drew) HGO.out HAO.out hyl).mono ?_
      rintro e wD ⟨vD, rfl, hoD, hbD⟩
      obtain ⟨A5, c5, rfl, hl5, hm5, hC5⟩ := hoD.form cI_len
      obtain ⟨b5, o5, rfl, hb5, d5⟩ := hC5.int HGET.out
      refine hK.out _ _ (kB5 hbD hS) (fun hSn invn => ?_)
      try simp only [List.getElem_toArray, List.getElem_cons_zero, List.getElem_cons_succ, Act.put, List.setIfInBounds_toArray, List.set_cons_zero, List.set_cons_succ]
      clear hK K inv hS
      have inv := invn
      have hS := hSn
      clear invn hSn
      refine F_take (i := 12) (v := ?_) rfl (by kernel_rfl) (by kernel_rfl) (by kernel_rfl) (fun _ _ _ h => h) inv (Or.inl ⟨by rfl, ?_⟩) (by assumption) (fun invn => ?_)
      rotate_left
      · (intro w hSw; (try dsimp only at hSw); go_simp; try with_reducible rfl)
      try simp only [List.getElem_toArray, List.getElem_cons_zero, List.getElem_cons_succ, Act.put, List.setIfInBounds_toArray, List.set_cons_zero, List.set_cons_succ]
      clear inv
      have inv := invn
      clear invn
      refine F_one (i := 13) (by kernel_rfl) rfl rfl (by omega) inv (fun K hK => ?_)
      try simp only [List.getElem_toArray, List.getElem_cons_zero, List.getElem_cons_succ]
      go_simp
      refine hK.out _ _ (hS) (fun hSn invn => ?_)
      try simp only [List.getElem_toArray, List.getElem_cons_zero, List.getElem_cons_succ, Act.put, List.setIfInBounds_toArray, List.set_cons_zero, List.set_cons_succ]
      clear hK K inv hS
      have inv := invn
      have hS := hSn
      clear invn hSn
      refine F_last (i := 14) (by kernel_rfl) rfl rfl (by omega) (by kernel_rfl) (fun K hK => ?_)
      go_simp
      refine hK _ _ ?_
      clear hK K inv hS
      clear q1 q1' q2 q2' q5 q6
      go_wp2_with fail
      go_ret
      exact ⟨by rw [HF.out]; simp [List.getElem?_eq_getElem hixl], below_trans hb4.drew hbD⟩
end Go.Proofs.Ytgdgelkeflihpaa

/- Walks in the laws' helpers: measured, copied, compared, marked, looked at. -/
namespace Go.Proofs.Ytgdgelkeflihpaa
set_option linter.unusedVariables false
set_option linter.unusedSimpArgs false
open Go.ChangeShapes Go.WideShapes Go.ChangeAt Go.RowKit
attribute [local go_sem] ext_cell ext_frozen ext_lt ext_lt1 ext_lt2 ext_lt3 ltn2 ltn3 ltn13 lts1 lts2 lts3

def WkO (lo hi : Nat) (w : World) (v : Value) (k : Wk) : Prop :=
  ∃ ss, v = .agg #[.int .i64 k.1, ss] ∧ Own lo hi w 113 cSt 2 ss k.2
theorem WkO.view {lo hi : Nat} {w : World} {v : Value} {k : Wk} (h : WkO lo hi w v k) : WkV lo hi w v k := by
  obtain ⟨ss, rfl, h1⟩ := h
  exact ⟨ss, rfl, h1.sl cSt_len⟩
theorem WkO.below {lo hi : Nat} {w w' : World} {v : Value} {k : Wk} (h : WkO lo hi w v k) {B : Nat} (hb : Below B w w') (hB : hi ≤ B) : WkO lo hi w' v k := by
  obtain ⟨ss, rfl, h1⟩ := h
  exact ⟨ss, rfl, h1.below hb hB⟩
theorem WkO.only {lo hi : Nat} {w w' : World} {v : Value} {k : Wk} (h : WkO lo hi w v k) {l r : Nat} (hb : Only l r w w') (ho : hi ≤ l ∨ r ≤ lo) : WkO lo hi w' v k := by
  obtain ⟨ss, rfl, h1⟩ := h
  exact ⟨ss, rfl, h1.only hb ho⟩
theorem WkO.mono {lo hi : Nat} {w : World} {v : Value} {k : Wk} (h : WkO lo hi w v k) {lo' hi' : Nat} (h1 : lo' ≤ lo) (h2 : hi ≤ hi') : WkO lo' hi' w v k := by
  obtain ⟨ss, rfl, g1⟩ := h
  exact ⟨ss, rfl, g1.mono h1 h2⟩

theorem szWalk_any (v : Value) (k : Wk) (left : Int) (w : World) (hv : WkV 0 w.heap.size w v k) (h0 : 0 ≤ left) (h1 : left ≤ 1048576) :
    Calls Try.prog 44 #[v, .int .i64 left] w fun e w' => e = .returned (.int .i64 (if left < k.2.length then -1 else left - k.2.length)) ∧ Below w.heap.size w w' := by
  obtain ⟨ss, rfl, ⟨A1, c1, rfl, hl1, hm1, -⟩⟩ := hv
  have hc := szStepS_any A1 k.2.length c1 left
  by_cases g1 : left < k.2.length
  · rw [if_pos g1] at hc ⊢
    have HC := Lib.hid hc
    clear hc
    go_enter Try.func44, Try.ntmps44
    go_wp2_with fail
    refine (HC.out _ (by omega) h0 h1).mono ?_; rintro e w1 ⟨rfl, rfl⟩
    go_wp2
    go_ret
    exact ⟨rfl, (Below.refl _ _).alloc (Nat.le_refl _) _⟩
  · rw [if_neg g1] at hc ⊢
    have HC := Lib.hid hc
    clear hc
    go_enter Try.func44, Try.ntmps44
    go_wp2_with fail
    refine (HC.out _ (by omega) h0 h1).mono ?_; rintro e w1 ⟨rfl, rfl⟩
    go_wp2
    go_ret
    exact ⟨rfl, (Below.refl _ _).alloc (Nat.le_refl _) _⟩

def szWk (k : Wk) (left : Int) : Int := if left < k.2.length then -1 else left - k.2.length
theorem szWk_le (k : Wk) (left : Int) (h : ¬ szWk k left < 0) : k.2.length ≤ left.toNat ∧ 0 ≤ szWk k left ∧ szWk k left ≤ left := by
  unfold szWk at h ⊢
  split at h
  · omega
  · rw [if_neg (by omega)]; omega
theorem szWalkD_any (v : Value) (k : Wk) (left : Int) (w : World) (hv : WkV 0 w.heap.size w v k) (h0 : 0 ≤ left) (h1 : left ≤ 1048576) :
    Calls Try.prog 44 #[v, .int .i64 left] w fun e w' => e = .returned (.int .i64 (szWk k left)) ∧ Below w.heap.size w w' := szWalk_any v k left w hv h0 h1

set_option maxHeartbeats 1000000 in
theorem toWalk_any (v : Value) (k : Wk) (w : World) (hv : WkV 0 w.heap.size w v k) (h1 : k.2.length ≤ 1048576) :
    Calls Try.prog 46 #[v] w fun e w' => ∃ v', e = .returned v' ∧ WkO w.heap.size w'.heap.size w' v' k ∧ Below w.heap.size w w' := by
  obtain ⟨ss, rfl, hss⟩ := hv
  obtain ⟨st, steps⟩ := k
  go_enter Try.func46, Try.ntmps46
  go_wp2_with fail
  refine (toStepS_any ss steps _ ?_ h1).mono ?_
  · exact SlE.keep hss (by repeat (first | exact Below.refl _ _ | refine Below.setCell ?_ (by simp <;> omega) _ | refine Below.alloc ?_ (by simp <;> omega) _))
  rintro e w1 ⟨v1, rfl, ho1', hb1⟩
  have b1 := (((Blk.new (w.alloc _) _ _ (w.heap.size + 1) (by simp)).alloc _)).keep hb1
  have b2 := (Blk.new ((w.alloc _).alloc _) _ _ (w.heap.size + 1 + 1) (by simp)).keep hb1
  have o1 : Only w.heap.size (w.heap.size + 3) w w1 := (((Only.refl _ _ _).alloc _).alloc _ |>.alloc _).trans (Only.of_below hb1 _ _)
  have ho1 : Own (w.heap.size + 3) w1.heap.size w1 _ cSt 2 v1 steps := ho1'.mono (by simp) (Nat.le_refl _)
  clear ho1'
  obtain ⟨A1, n1, c1, rfl⟩ := ho1.shape
  have s1 : w.heap.size + 3 ≤ w1.heap.size := by have := hb1.size; simpa using this
  clear hb1
  have x0 : w1.cell? ⟨w.heap.size + 1, 0, none⟩ = some _ := b1.cell 0
  have x1 : w1.cell? ⟨w.heap.size + 1, 1, none⟩ = some _ := b1.cell 1
  have x2 : w1.cell? ⟨w.heap.size + 1 + 1, 0, none⟩ = some _ := b2.cell 0
  have x3 : w1.cell? ⟨w.heap.size + 1 + 1, 1, none⟩ = some _ := b2.cell 1
  have y0 := b1.frozen 0
  have y1 := b1.frozen 1
  have y2 := b2.frozen 0
  have y3 := b2.frozen 1
  go_wp2_with fail
  have oz : Only w.heap.size (w.heap.size + 3) w1 _ := (((Only.refl _ _ w1).setCell (p := ⟨w.heap.size + 1 + 1, 1, none⟩) (.inl (by simp <;> omega)) (.slice A1 n1 c1)).setCell (p := ⟨w.heap.size + 1, 0, none⟩) (.inl (by simp <;> omega)) (.int .i64 st)).setCell (p := ⟨w.heap.size + 1, 1, none⟩) (.inl (by simp <;> omega)) (.slice A1 n1 c1)
  refine bodyPost_ret (v := .agg #[.int .i64 st, .slice A1 n1 c1]) (by simp [results, Try.results46, go_sem, x0, x1]) rfl ⟨_, rfl, ⟨_, rfl, (ho1.only oz (.inr (Nat.le_refl _))).mono (by omega) (by simp)⟩, (o1.trans oz).below (Nat.le_refl _) (Nat.le_refl _)⟩

set_option maxHeartbeats 1000000 in
theorem eqWalk_same (v1 v2 : Value) (k : Wk) (w : World) (hv1 : WkV 0 w.heap.size w v1 k) (hv2 : WkV 0 w.heap.size w v2 k) :
    Calls Try.prog 33 #[v1, v2] w fun e w' => e = .returned (.bool true) ∧ Below w.heap.size w w' := by
  obtain ⟨ss1, rfl, hs1⟩ := hv1
  obtain ⟨ss2, rfl, hs2⟩ := hv2
  obtain ⟨st, steps⟩ := k
  have hb0 : Below w.heap.size w ((w.alloc (.cells #[.int .i64 st, ss1] 53)).alloc (.cells #[.int .i64 st, ss2] 53)) := ((Below.refl _ _).alloc (Nat.le_refl _) _).alloc (by simp) _
  go_enter Try.func33, Try.ntmps33
  go_wp2_with fail
  refine (eqStepS_same ss1 ss2 steps _ (SlE.keep hs1 hb0) (SlE.keep hs2 hb0)).mono ?_
  rintro e w1 ⟨rfl, hb1⟩
  go_wp2_with fail
  go_ret
  exact ⟨rfl, below_trans hb0 hb1⟩

set_option maxHeartbeats 1000000 in
theorem markWalk_any (lo hi : Nat) (v : Value) (x : Wk) (k : Int) (w : World) (hv : WkO lo hi w v x) (hw : hi ≤ w.heap.size) (hk : 0 ≤ k) (h1 : x.2.length ≤ 1048576) (hk2 : k ≤ 1099511627776) :
    Calls Try.prog 35 #[v, .int .i64 k] w fun e w' => e = .returned (.int .i64 (k + 2 * x.2.length)) ∧ WkO lo hi w' v (x.1, mkStep k x.2.length) ∧ Only lo hi w w' := by
  obtain ⟨ss, rfl, hss⟩ := hv
  have hb0 : Below w.heap.size w (w.alloc (.cells #[.int .i64 x.1, ss] 53)) := (Below.refl _ _).alloc (Nat.le_refl _) _
  go_enter Try.func35, Try.ntmps35
  go_wp2_with fail
  refine (markStepS_any lo hi _ ss x.2 k _ (hss.below hb0 hw) hk (by omega)).mono ?_
  rintro e w1 ⟨rfl, hss1, ho1⟩
  have ho2 := (Only.of_below hb0 lo hi).trans ho1
  go_wp2_with fail
  go_ret
  exact ⟨rfl, ⟨ss, rfl, hss1⟩, ho2⟩

set_option maxHeartbeats 1000000 in
theorem heldWalk_any (v : Value) (st : Int) (n : Nat) (k : Int) (w : World) (hv : WkV 0 w.heap.size w v (st, mkStep k n)) (hk : 0 ≤ k) (h1 : n ≤ 1048576) (hk2 : k ≤ 1099511627776) :
    Calls Try.prog 36 #[v, .int .i64 k] w fun e w' => e = .returned (.int .i64 (k + 2 * n)) ∧ Below w.heap.size w w' := by
  obtain ⟨ss, rfl, hss⟩ := hv
  have hb0 : Below w.heap.size w (w.alloc (.cells #[.int .i64 st, ss] 53)) := (Below.refl _ _).alloc (Nat.le_refl _) _
  go_enter Try.func36, Try.ntmps36
  go_wp2_with fail
  refine (heldStepS_any ss n k _ (SlE.keep hss hb0) hk (by omega)).mono ?_
  rintro e w1 ⟨rfl, hb1⟩
  go_wp2_with fail
  go_ret
  exact ⟨rfl, below_trans hb0 hb1⟩
end Go.Proofs.Ytgdgelkeflihpaa

/- The reference's CountShortest and CountWalks. -/
namespace Go.Proofs.Ytgdgelkeflihpaa
set_option linter.unusedVariables false
set_option linter.unusedSimpArgs false
open Go.ChangeShapes Go.WideShapes Go.ChangeAt Go.RowKit
attribute [local go_sem] ext_cell ext_frozen ext_lt ext_lt1 ext_lt2 ext_lt3 ltn2 ltn3 ltn13 lts1 lts2 lts3

/-- the first row's count, as a walk wants it -/
theorem LaysV.first {g : Gr} {a : Au} {y : Int} {k0 : Key} {n lo : Nat} {w : World} {v : Value} (h : LaysV g a y k0 n lo w v) : ∃ (b o c gd cd : Nat), v = .slice (some ⟨b, o, none⟩) (n + 1) c ∧ b < w.heap.size ∧ gd < w.heap.size ∧ w.cell? ⟨b, o, none⟩ = some (.slice (some ⟨gd, 0, none⟩) 1 cd) ∧ w.cell? ⟨gd, 2, none⟩ = some (.int .i64 (cw g a y n k0.1 k0.2 : Nat)) := by
  obtain ⟨A, c, rfl, -, -, h⟩ := h
  obtain ⟨b, o, gd, cd, zs, rfl, hb, hc, hl⟩ := h 0 (Nat.zero_le _)
  obtain ⟨z, -, -, -, -, -, -, -, r2, -, -⟩ := hl.get (i := 0) (k := k0) rfl
  refine ⟨b, o, c, gd, cd, rfl, hb, hl.lt, by simpa [layN] using hc, ?_⟩
  rw [layC_at (i := 0) (k := k0) rfl, Nat.sub_zero] at r2
  simpa using r2
set_option maxHeartbeats 8000000 in
set_option maxRecDepth 100000 in
theorem specCountShortest (vg va : Value) (g : Gr) (a : Au) (x y : Int) (w : World) (hgv : GrV 0 w.heap.size w vg g) (hav : AuV 0 w.heap.size w va a) :
    Calls Try.prog 29 #[vg, va, .int .i64 x, .int .i64 y] w fun e w' => e = .returned (.int .i64 (cntShort g a x y)) ∧ Below w.heap.size w w' := by
  have hgv0 := hgv
  have hav0 := hav
  obtain ⟨A1, n1, c1, A2, n2, c2, rfl⟩ := hgv.shape
  obtain ⟨A3, n3, c3, A4, n4, c4, rfl⟩ := hav.shape
  have hb0 : Below w.heap.size w ((w.alloc (.cells #[.slice A1 n1 c1, .slice A2 n2 c2] 45)).alloc (.cells #[.int .i64 a.start, .slice A3 n3 c3, .slice A4 n4 c4] 29)) := ((Below.refl _ _).alloc (Nat.le_refl _) _).alloc (by simp) _
  have hbG := ((Blk.new w 45 #[.slice A1 n1 c1, .slice A2 n2 c2] w.heap.size rfl).alloc (.cells #[.int .i64 a.start, .slice A3 n3 c3, .slice A4 n4 c4] 29))
  have hbA := (Blk.new (w.alloc (.cells #[.slice A1 n1 c1, .slice A2 n2 c2] 45)) 29 #[.int .i64 a.start, .slice A3 n3 c3, .slice A4 n4 c4] (w.heap.size + 1) (by simp))
  have HBG := Lib.hid hbG
  have HBA := Lib.hid hbA
  have HGV := Lib.hid hgv0
  have HAV := Lib.hid hav0
  have HB0 := Lib.hid hb0
  have HSL := Lib.hid (fun (W : World) (hW : Below w.heap.size w W) => specShortestLength _ _ g a x y W (HGV.out.keep hW) (HAV.out.keep hW))
  clear hgv hav hgv0 hav0 hb0 hbG hbA
  by_cases hneg : shortLen g a x y < 0
  · have HF := Lib.hid (show cntShort g a x y = 0 from if_pos hneg)
    generalize shortLen g a x y = SL at *
    go_enter Try.func29, Try.ntmps29
    go_wp2_with fail
    refine (HSL.out _ HB0.out).mono ?_
    rintro e w1 ⟨rfl, hb1⟩
    go_wp2_with fail
    go_ret
    exact ⟨by rw [HF.out]; rfl, below_trans HB0.out hb1⟩
  · have hco := shortLen_ok (show 0 ≤ shortLen g a x y by omega)
    obtain ⟨⟨hx0, hx1⟩, ⟨hy0, hy1⟩, hgo, ha⟩ := cntOk_iff.1 hco
    have hlt := shortLen_lt g a x y
    obtain ⟨L, hL⟩ := Int.eq_ofNat_of_zero_le (show 0 ≤ shortLen g a x y by omega)
    have HF := Lib.hid (show cntShort g a x y = (cw g a y L x.toNat (bit a.start.toNat) : Nat) by rw [cntShort, if_neg hneg, hL, Int.toNat_natCast]; rfl)
    rw [hL] at HSL hlt hneg
    obtain ⟨x, rfl⟩ := Int.eq_ofNat_of_zero_le hx0
    rw [Int.toNat_natCast] at HF
    have HGO := Lib.hid hgo
    have HA := Lib.hid ha
    have hxl : x < g.vals.length := by omega
    have hln : ¬ (L : Int) < 0 := by omega
    clear hco hgo ha hL hneg hx0 hx1 hy0 hy1
    go_enter Try.func29, Try.ntmps29
    go_wp2_with fail
    refine (HSL.out _ HB0.out).mono ?_
    rintro e w1 ⟨rfl, hb1⟩
    have hb2 := below_trans HB0.out hb1
    have bG := HBG.out.keep hb1
    have bA := HBA.out.keep hb1
    have x0 : w1.cell? ⟨w.heap.size, 0, none⟩ = some (.slice A1 n1 c1) := bG.cell 0
    have x1 : w1.cell? ⟨w.heap.size, 1, none⟩ = some (.slice A2 n2 c2) := bG.cell 1
    have y0 : w1.cell? ⟨w.heap.size + 1, 0, none⟩ = some (.int .i64 a.start) := bA.cell 0
    have y1 : w1.cell? ⟨w.heap.size + 1, 1, none⟩ = some (.slice A3 n3 c3) := bA.cell 1
    have y2 : w1.cell? ⟨w.heap.size + 1, 2, none⟩ = some (.slice A4 n4 c4) := bA.cell 2
    clear bG bA
    clear hb1
    go_wp2_with fail
    refine (l19Layers_any _ _ g a x y L _ (HGV.out.keep hb2) (HAV.out.keep hb2) HGO.out HA.out hxl (by omega)).mono ?_
    rintro e w2 ⟨v2, rfl, hlv, hb3⟩
    obtain ⟨bL, oL, cL, gd, cd, rfl, lb, lg, r0, r2⟩ := hlv.first
    simp only at r2
    have hn1 : (0 : Int) < (L : Int) + 1 := by omega
    have HB := Lib.hid (below_trans hb2 hb3)
    clear hlv hb3
    go_wp2_with fail
    go_ret
    exact ⟨by rw [HF.out]; rfl, HB.out⟩
set_option maxHeartbeats 8000000 in
set_option maxRecDepth 100000 in
theorem specCountWalks (vg va : Value) (g : Gr) (a : Au) (x y n : Int) (w : World) (hgv : GrV 0 w.heap.size w vg g) (hav : AuV 0 w.heap.size w va a) :
    Calls Try.prog 25 #[vg, va, .int .i64 x, .int .i64 y, .int .i64 n] w fun e w' => e = .returned (.int .i64 (cntWalks g a x y n)) ∧ Below w.heap.size w w' := by
  have hgv0 := hgv
  have hav0 := hav
  obtain ⟨A1, n1, c1, A2, n2, c2, rfl⟩ := hgv.shape
  obtain ⟨A3, n3, c3, A4, n4, c4, rfl⟩ := hav.shape
  have hb0 : Below w.heap.size w ((w.alloc (.cells #[.slice A1 n1 c1, .slice A2 n2 c2] 45)).alloc (.cells #[.int .i64 a.start, .slice A3 n3 c3, .slice A4 n4 c4] 29)) := ((Below.refl _ _).alloc (Nat.le_refl _) _).alloc (by simp) _
  have hbG := ((Blk.new w 45 #[.slice A1 n1 c1, .slice A2 n2 c2] w.heap.size rfl).alloc (.cells #[.int .i64 a.start, .slice A3 n3 c3, .slice A4 n4 c4] 29))
  have hbA := (Blk.new (w.alloc (.cells #[.slice A1 n1 c1, .slice A2 n2 c2] 45)) 29 #[.int .i64 a.start, .slice A3 n3 c3, .slice A4 n4 c4] (w.heap.size + 1) (by simp))
  have HBG := Lib.hid hbG
  have HBA := Lib.hid hbA
  have HGV := Lib.hid hgv0
  have HAV := Lib.hid hav0
  have HB0 := Lib.hid hb0
  have HSL := Lib.hid (fun (W : World) (hW : Below w.heap.size w W) => specShortestLength _ _ g a x y W (HGV.out.keep hW) (HAV.out.keep hW))
  clear hgv hav hgv0 hav0 hb0 hbG hbA
  clear HSL
  have HIN := Lib.hid (fun W => l1In_any n 0 60 W)
  go_enter Try.func25, Try.ntmps25
  go_wp2_with fail
  have hgx := l14Good_any _ _ g a x 0 _ (HGV.out.keep HB0.out) (HAV.out.keep HB0.out)
  cases hk : goodB g a x 0 with
  | false =>
    rw [hk] at hgx
    have hfin : cntWalks g a x y n = 0 := by
      unfold cntWalks cntOk
      rw [if_neg]
      intro h
      rw [goodB0] at hk
      simp only [Bool.and_eq_true] at h
      simp [h] at hk
    have HF := Lib.hid hfin
    clear hfin
    clear hk
    refine hgx.mono ?_
    rintro e w1 ⟨rfl, hb1⟩
    go_wp2_with fail
    go_ret
    exact ⟨by rw [HF.out]; rfl, below_trans HB0.out hb1⟩
  | true =>
    rw [hk] at hgx
    have HK := Lib.hid hk
    clear hk
    refine hgx.mono ?_
    rintro e w1 ⟨rfl, hb1⟩
    have hb2 := below_trans HB0.out hb1
    have bG := HBG.out.keep hb1
    have bA := HBA.out.keep hb1
    have x0 : w1.cell? ⟨w.heap.size, 0, none⟩ = some (.slice A1 n1 c1) := bG.cell 0
    have x1 : w1.cell? ⟨w.heap.size, 1, none⟩ = some (.slice A2 n2 c2) := bG.cell 1
    have y0 : w1.cell? ⟨w.heap.size + 1, 0, none⟩ = some (.int .i64 a.start) := bA.cell 0
    have y1 : w1.cell? ⟨w.heap.size + 1, 1, none⟩ = some (.slice A3 n3 c3) := bA.cell 1
    have y2 : w1.cell? ⟨w.heap.size + 1, 2, none⟩ = some (.slice A4 n4 c4) := bA.cell 2
    clear bG bA
    have HBG1 := Lib.hid (HBG.out.keep hb1)
    have HBA1 := Lib.hid (HBA.out.keep hb1)
    have hgy := l14Good_any _ _ g a y 0 w1 (HGV.out.keep hb2) (HAV.out.keep hb2)
    clear hgx hb1
    have HB2 := Lib.hid hb2
    clear hb2
    cases hk : goodB g a y 0 with
    | false =>
      rw [hk] at hgy
      have hfin : cntWalks g a x y n = 0 := by
        unfold cntWalks cntOk
        rw [if_neg]
        intro h
        rw [goodB0] at hk
        simp only [Bool.and_eq_true] at h
        simp [h] at hk
      have HF := Lib.hid hfin
      clear hfin
      clear hk
      have HGY := Lib.hid hgy
      clear hgy
      go_wp2_with fail
      refine HGY.out.mono ?_
      rintro e w3 ⟨rfl, hb3⟩
      go_wp2_with fail
      go_ret
      exact ⟨by rw [HF.out]; rfl, below_trans HB2.out hb3⟩
    | true =>
      rw [hk] at hgy
      have HGY := Lib.hid hgy
      rw [goodB0] at hk
      have hk2 := HK.out
      rw [goodB0] at hk2
      simp only [Bool.and_eq_true] at hk hk2
      have hco : cntOk g a x y = true := by simp [cntOk, hk, hk2]
      clear hk hk2 hgy HK
      go_wp2_with fail
      refine HGY.out.mono ?_
      rintro e w3 ⟨rfl, hb3⟩
      have HB3 := Lib.hid (below_trans HB2.out hb3)
      have bG := HBG1.out.keep hb3
      have bA := HBA1.out.keep hb3
      have x0 : w3.cell? ⟨w.heap.size, 0, none⟩ = some (.slice A1 n1 c1) := bG.cell 0
      have x1 : w3.cell? ⟨w.heap.size, 1, none⟩ = some (.slice A2 n2 c2) := bG.cell 1
      have y0 : w3.cell? ⟨w.heap.size + 1, 0, none⟩ = some (.int .i64 a.start) := bA.cell 0
      have y1 : w3.cell? ⟨w.heap.size + 1, 1, none⟩ = some (.slice A3 n3 c3) := bA.cell 1
      have y2 : w3.cell? ⟨w.heap.size + 1, 2, none⟩ = some (.slice A4 n4 c4) := bA.cell 2
      clear bG bA
      have HBG2 := Lib.hid (HBG1.out.keep hb3)
      have HBA2 := Lib.hid (HBA1.out.keep hb3)
      clear hb3 HGY
      go_wp2_with fail
      cases hw : wi n 0 60 with
      | false =>
        rw [hw] at HIN
        have HF := Lib.hid (show cntWalks g a x y n = 0 by rw [cntWalks, if_neg]; rw [hw]; simp)
        clear hco hw
        refine (HIN.out _).mono ?_
        rintro e w9 ⟨rfl, hw9⟩
        rw [hw9]
        clear hw9
        go_wp2_with fail
        go_ret
        exact ⟨by rw [HF.out]; rfl, HB3.out⟩
      | true =>
        rw [hw] at HIN
        have hwi := wi_iff.1 hw
        obtain ⟨L, rfl⟩ := Int.eq_ofNat_of_zero_le hwi.1
        obtain ⟨⟨hx0, hx1⟩, ⟨hy0, hy1⟩, hgo, ha⟩ := cntOk_iff.1 hco
        have HF := Lib.hid (show cntWalks g a x y (L : Int) = (cw g a y L x.toNat (bit a.start.toNat) : Nat) by rw [cntWalks, if_pos (by rw [hco, hw]; rfl), Int.toNat_natCast]; rfl)
        obtain ⟨x, rfl⟩ := Int.eq_ofNat_of_zero_le hx0
        rw [Int.toNat_natCast] at HF
        have HGO := Lib.hid hgo
        have HA := Lib.hid ha
        have hxl : x < g.vals.length := by omega
        clear hco hgo ha hw hx0 hx1 hy0 hy1
        refine (HIN.out _).mono ?_
        rintro e w9 ⟨rfl, hw9⟩
        rw [hw9]
        clear hw9
        go_wp2_with fail
        refine (l19Layers_any _ _ g a x y L _ (HGV.out.keep HB3.out) (HAV.out.keep HB3.out) HGO.out HA.out hxl (by omega)).mono ?_
        rintro e w2 ⟨v2, rfl, hlv, hb3⟩
        obtain ⟨bL, oL, cL, gd, cd, rfl, lb, lg, r0, r2⟩ := hlv.first
        simp only at r2
        have hn1 : (0 : Int) < (L : Int) + 1 := by omega
        have HB := Lib.hid (below_trans HB3.out hb3)
        clear hlv hb3
        go_wp2_with fail
        go_ret
        exact ⟨by rw [HF.out]; rfl, HB.out⟩
end Go.Proofs.Ytgdgelkeflihpaa

/- Keys of the memory that counts walks: a node, a set of states, a number of steps. -/
namespace Go.Proofs.Ytgdgelkeflihpaa
set_option linter.unusedVariables false
set_option linter.unusedSimpArgs false
open Go.ChangeShapes Go.WideShapes Go.ChangeAt Go.RowKit Go.Maps

theorem key3 {P : Program} {k : TypeId} {f0 f1 f2 : Field} (hu : P.underlying k = some (.struct #[f0, f1, f2])) (h1 : P.keyType k = true) (hc : P.cellsOf k = 3) (h0 : P.underlying f0.type = some (.int .i64)) (h0' : P.underlying f1.type = some (.int .i64)) (h0'' : P.underlying f2.type = some (.int .i64))
    (c0 : P.cellsOf f0.type = 1) (c1 : P.cellsOf f1.type = 1) (c2 : P.cellsOf f2.type = 1) (o0 : f0.offset = 0) (o1 : f1.offset = 1) (o2 : f2.offset = 2) (n0 : (f0.name != "_") = true) (n1 : (f1.name != "_") = true) (n2 : (f2.name != "_") = true) {n : Nat} (hn : P.types.size = n + 1)
    (x s f : Int) (hx : (Lit.int .i64 x).wf = true) (hs : (Lit.int .i64 s).wf = true) (hf : (Lit.int .i64 f).wf = true) : keyOf P k (.agg #[.int .i64 x, .int .i64 s, .int .i64 f]) = some (.string (keyBytes [.int .i64 x, .int .i64 s, .int .i64 f])) := by
  have h4 : (Value.agg #[.int .i64 x, .int .i64 s, .int .i64 f]).formed P k = true := by simp [Value.formed, hu, hc]
  simp only [bne_iff_ne, ne_eq] at n0 n1 n2
  simp [keyOf, hu, h1, h4, hn, Program.keyLits, hc, h0, h0', h0'', c0, c1, c2, o0, o1, o2, n0, n1, n2, hx, hs, hf, Value.cells]
theorem laidOutK : laidOutB Try.prog = true := by kernel_rfl
theorem widePlace : (match Try.prog.underlying 102 with | some (.array _ _) | some (.struct _) => true | _ => false) = true := by rw [Try.underlying102]
theorem rowPlace : decide (102 < Try.prog.types.size) = true := by kernel_rfl
theorem typePlace : Try.prog.keyTypeAt 5 102 = true := by kernel_rfl
set_option maxRecDepth 100000 in
theorem keyedPlace : Keyed Try.prog 102 := Keyed.of_law (deep_law_laid laidOutK (m := 5) (by decide) (of_decide_eq_true rowPlace) typePlace widePlace)
theorem sizeK : ∃ n, Try.prog.types.size = n + 1 := ⟨Try.prog.types.size - 1, by have h : 0 < Try.prog.types.size := of_decide_eq_true (by kernel_rfl); omega⟩
def plKey (x s f : Int) : Lit := .string (keyBytes [.int .i64 x, .int .i64 s, .int .i64 f])
theorem keyTPlace : Try.prog.keyType 102 = true := by kernel_rfl
theorem cellsPlace : Try.prog.cellsOf 102 = 3 := by kernel_rfl
theorem cellsIntK : Try.prog.cellsOf 3 = 1 := by kernel_rfl
theorem keyPlace (x s f : Int) (hx : (Lit.int .i64 x).wf = true) (hs : (Lit.int .i64 s).wf = true) (hf : (Lit.int .i64 f).wf = true) : keyOf Try.prog 102 (.agg #[.int .i64 x, .int .i64 s, .int .i64 f]) = some (plKey x s f) := by
  obtain ⟨n, hn⟩ := sizeK
  exact key3 Try.underlying102 keyTPlace cellsPlace Try.underlying3 Try.underlying3 Try.underlying3 cellsIntK cellsIntK cellsIntK rfl rfl rfl (by decide) (by decide) (by decide) hn x s f hx hs hf
theorem plKey_inj {x s f x' s' f' : Int} (hx : (Lit.int .i64 x).wf = true) (hs : (Lit.int .i64 s).wf = true) (hf : (Lit.int .i64 f).wf = true) (hx' : (Lit.int .i64 x').wf = true) (hs' : (Lit.int .i64 s').wf = true) (hf' : (Lit.int .i64 f').wf = true) (h : plKey x s f = plKey x' s' f') : x = x' ∧ s = s' ∧ f = f' := by
  have h1 := keyPlace x s f hx hs hf
  have h2 := keyPlace x' s' f' hx' hs' hf'
  rw [← h] at h2
  have h3 := keyedPlace.inj h1 h2
  injection h3 with h3
  simpa using h3
end Go.Proofs.Ytgdgelkeflihpaa

/- What the counter's memory holds: counts of places, each once. -/
namespace Go.Proofs.Ytgdgelkeflihpaa
set_option linter.unusedVariables false
set_option linter.unusedSimpArgs false
open Go.ChangeShapes Go.WideShapes Go.ChangeAt Go.RowKit Go.Maps
theorem wf_nat {x : Nat} (h : x ≤ 9223372036854775807) : (Lit.int .i64 (x : Int)).wf = true := by
  have e1 : IntKind.i64.min = -9223372036854775808 := by decide
  have e2 : IntKind.i64.max = 9223372036854775807 := by decide
  simp [Lit.wf, IntKind.wrap] <;> omega
abbrev Plc := Nat × Nat × Nat
def plcOk (z : Plc) : Prop := z.1 < 5 ∧ z.2.1 < 4096 ∧ z.2.2 ≤ 60
structure MemD {H : Type} (g : Gr) (a : Au) (y : Int) (D : DataW H) (M : List Plc) : Prop where
  map : IsMap D
  nod : M.Nodup
  rng : ∀ z ∈ M, plcOk z
  has : ∀ z : Plc, plcOk z → Maps.has D (plKey z.1 z.2.1 z.2.2) = decide (z ∈ M)
  val : ∀ z ∈ M, D.atKey (plKey z.1 z.2.1 z.2.2) (.lit (.int .i64 0)) = .lit (.int .i64 (cw g a y z.2.2 z.1 z.2.1 : Nat))
theorem plKey_nat {z z' : Plc} (h : plcOk z) (h' : plcOk z') (e : plKey z.1 z.2.1 z.2.2 = plKey z'.1 z'.2.1 z'.2.2) : z = z' := by
  obtain ⟨x, s, f⟩ := z
  obtain ⟨x', s', f'⟩ := z'
  unfold plcOk at h h'
  simp only at h h' e
  obtain ⟨h1, h2, h3⟩ := plKey_inj (wf_nat (by omega)) (wf_nat (by omega)) (wf_nat (by omega)) (wf_nat (by omega)) (wf_nat (by omega)) (wf_nat (by omega)) e
  simp only [Prod.mk.injEq]
  omega
theorem MemD.empty {H : Type} (g : Gr) (a : Au) (y : Int) : MemD g a y (.map [] : DataW H) [] :=
  ⟨isMap_empty, List.nodup_nil, (fun z hz => by cases hz), (fun z _ => by simp [Maps.has_eq]), (fun z hz => by cases hz)⟩
theorem MemD.put {H : Type} {g : Gr} {a : Au} {y : Int} {D : DataW H} {M : List Plc} (h : MemD g a y D M) {z : Plc} (hz : plcOk z) (hn : z ∉ M) :
    MemD g a y (D.put (plKey z.1 z.2.1 z.2.2) (.lit (.int .i64 (cw g a y z.2.2 z.1 z.2.1 : Nat)))) (M ++ [z]) := by
  refine ⟨h.map.put _ _, List.nodup_append.2 ⟨h.nod, by simp, fun b hb c hc e => ?_⟩, fun u hu => ?_, fun u hu => ?_, fun u hu => ?_⟩
  · rw [List.mem_singleton] at hc
    subst hc e
    exact hn hb
  · rcases List.mem_append.1 hu with hu | hu
    · exact h.rng u hu
    · rw [List.mem_singleton] at hu
      subst hu
      exact hz
  · by_cases e : u = z
    · subst e
      rw [Maps.has_put_same h.map (show WideAt.IsKeyLit (plKey u.1 u.2.1 u.2.2) from trivial)]
      simp
    · rw [Maps.has_put_other (fun e2 => e (plKey_nat hu hz e2)), h.has u hu, decide_eq_decide, List.mem_append, List.mem_singleton]
      exact ⟨.inl, fun h => h.resolve_right e⟩
  · by_cases e : u = z
    · subst e
      rw [atKey_put_same h.map (show WideAt.IsKeyLit (plKey u.1 u.2.1 u.2.2) from trivial)]
    · have hu2 : u ∈ M := by
        rcases List.mem_append.1 hu with hu | hu
        · exact hu
        · rw [List.mem_singleton] at hu; exact absurd hu e
      rw [atKey_put_other (fun e2 => e (plKey_nat (h.rng u hu2) hz e2))]
      exact h.val u hu2
theorem MemD.len {H : Type} {g : Gr} {a : Au} {y : Int} {D : DataW H} {M : List Plc} (h : MemD g a y D M) : M.length ≤ 1249280 := by
  have h1 := nodup_subN (M.map fun z => (z.1 * 4096 + z.2.1) * 61 + z.2.2) (List.range 1249280) ?_ ?_
  · simpa using h1
  · rw [List.Nodup, List.pairwise_map]
    refine List.Pairwise.imp_of_mem ?_ h.nod
    intro b c hb hc hne he
    refine hne ?_
    have hb := h.rng b hb
    have hc := h.rng c hc
    unfold plcOk at hb hc
    exact Prod.ext (by omega) (Prod.ext (by omega) (by omega))
  · intro u hu
    obtain ⟨z, hz, rfl⟩ := List.mem_map.1 hu
    have hz := h.rng z hz
    unfold plcOk at hz
    rw [List.mem_range]
    omega
end Go.Proofs.Ytgdgelkeflihpaa

/- Plain: the rows of arcs, edge by edge. -/
namespace Go.Proofs.Ytgdgelkeflihpaa
set_option linter.unusedVariables false
set_option linter.unusedSimpArgs false
/-- the arcs of all nodes by the first i edges -/
def rowsTo (g : Gr) (i : Nat) : List (List Arc) := (List.range g.vals.length).map fun (x : Nat) => (g.edges.take i).flatMap (arcE (x : Int))
theorem rowsTo_at {g : Gr} {i x : Nat} (h : x < g.vals.length) : (rowsTo g i)[x]? = some ((g.edges.take i).flatMap (arcE (x : Int))) := by simp [rowsTo, h]
theorem rowsTo_len (g : Gr) (i : Nat) : (rowsTo g i).length = g.vals.length := by simp [rowsTo]
theorem rowsTo_zero (g : Gr) : rowsTo g 0 = List.replicate g.vals.length [] := by
  apply List.ext_getElem?
  intro x
  simp only [rowsTo, List.take_zero, List.flatMap_nil, List.getElem?_map, List.getElem?_replicate, List.getElem?_range]
  by_cases h : x < g.vals.length
  · simp [h]
  · simp [h]
def rowFrom (g : Gr) (i : Nat) (e : Ed) : List (List Arc) := (rowsTo g i).set e.2.1.toNat ((g.edges.take i).flatMap (arcE e.2.1) ++ [((e.1, false), arcLetter false e, e.2.2.1)])
def rowBack (g : Gr) (i : Nat) (e : Ed) : List Arc := (g.edges.take i).flatMap (arcE e.2.2.1) ++ if e.2.1 = e.2.2.1 then [((e.1, false), arcLetter false e, e.2.2.1)] else []
theorem rowFrom_at {g : Gr} {i : Nat} {e : Ed} (h0 : 0 ≤ e.2.1) (hn : e.2.1 ≤ (g.vals.length : Int) - 1) (h1 : 0 ≤ e.2.2.1) (h2 : e.2.2.1 ≤ (g.vals.length : Int) - 1) : (rowFrom g i e)[e.2.2.1.toNat]? = some (rowBack g i e) := by
  unfold rowFrom rowBack
  rw [List.getElem?_set]
  by_cases h : e.2.1 = e.2.2.1
  · rw [if_pos (by rw [h]), if_pos (by rw [rowsTo_len]; omega), if_pos h, h]
  · rw [if_neg (by omega), if_neg h, rowsTo_at (by omega), Int.toNat_of_nonneg h1]; simp
theorem rowsTo_push {g : Gr} {i : Nat} {e : Ed} (he : g.edges[i]? = some e) (h0 : 0 ≤ e.2.1) (hn : e.2.1 ≤ (g.vals.length : Int) - 1) (h1 : 0 ≤ e.2.2.1) (h2 : e.2.2.1 ≤ (g.vals.length : Int) - 1) :
    (rowFrom g i e).set e.2.2.1.toNat (rowBack g i e ++ [((e.1, true), arcLetter true e, e.2.1)]) = rowsTo g (i + 1) := by
  apply List.ext_getElem?
  intro x
  by_cases hx : x < g.vals.length
  · rw [rowsTo_at hx, flat_take he, List.getElem?_set]
    unfold rowFrom rowBack
    rw [List.length_set, rowsTo_len]
    by_cases hb : e.2.2.1 = (x : Int)
    · rw [if_pos (by omega), if_pos (by omega)]
      congr 1
      rw [hb, List.append_assoc]
      congr 1
      unfold arcE arcLetter
      by_cases hf : e.2.1 = (x : Int)
      · simp [hf, hb]
      · simp [hf, hb]
    · rw [if_neg (by omega), List.getElem?_set, rowsTo_len]
      by_cases hf : e.2.1 = (x : Int)
      · rw [if_pos (by omega), if_pos (by omega)]
        congr 1
        rw [hf]
        congr 1
        unfold arcE arcLetter
        simp [hf, hb]
      · rw [if_neg (by omega), rowsTo_at hx]
        congr 1
        unfold arcE
        simp [hf, hb]
  · rw [List.getElem?_eq_none (by rw [List.length_set, rowFrom, List.length_set, rowsTo_len]; omega), List.getElem?_eq_none (by rw [rowsTo_len]; omega)]
theorem rowsTo_all (g : Gr) : rowsTo g g.edges.length = (List.range g.vals.length).map fun (x : Nat) => arcsOf g (x : Int) := by
  unfold rowsTo arcsOf
  rw [List.take_length]

end Go.Proofs.Ytgdgelkeflihpaa

/- The program's functions on graphs: validity, edges, steps. -/
namespace Go.Proofs.Ytgdgelkeflihpaa
set_option linter.unusedVariables false
set_option linter.unusedSimpArgs false
open Go.ChangeShapes Go.WideShapes Go.ChangeAt Go.RowKit
attribute [local go_sem] ext_cell ext_frozen ext_lt ext_lt1 ext_lt2 ext_lt3 ltn2 ltn3 ltn13 lts1 lts2 lts3

set_option maxHeartbeats 1000000 in
theorem edgeOk_any (e : Ed) (n : Nat) (w : World) (hn : n ≤ 9223372036854775807) :
    Calls Try.prog 148 #[.agg #[.int .i64 e.1, .int .i64 e.2.1, .int .i64 e.2.2.1, .int .i64 e.2.2.2], .int .i64 (n : Int)] w fun en w' => en = .returned (.bool (edOk n e)) ∧ Below w.heap.size w w' := by
  obtain ⟨a, b, c, d⟩ := e
  have HW := Lib.hid within_any
  unfold edOk
  simp only
  have hb0 : Below w.heap.size w (w.alloc (.cells #[.int .i64 a, .int .i64 b, .int .i64 c, .int .i64 d] 147)) := (Below.refl _ _).alloc (Nat.le_refl _) _
  cases g1 : wi a 1 99 with
  | false =>
    have HZ := Lib.hid g1
    go_enter Try.func148, Try.ntmps148
    go_wp2_with (go_at_call 69; refine (HW.out _ _ _ _).mono ?_; rintro e w' ⟨rfl, rfl⟩)
    go_ret
    exact ⟨rfl, hb0⟩
  | true =>
    cases g2 : wi b 0 ((n : Int) - 1) with
    | false =>
      go_enter Try.func148, Try.ntmps148
      go_wp2_with (go_at_call 69; refine (HW.out _ _ _ _).mono ?_; rintro e w' ⟨rfl, rfl⟩)
      go_ret
      exact ⟨rfl, hb0⟩
    | true =>
      cases g3 : wi c 0 ((n : Int) - 1) with
      | false =>
        go_enter Try.func148, Try.ntmps148
        go_wp2_with (go_at_call 69; refine (HW.out _ _ _ _).mono ?_; rintro e w' ⟨rfl, rfl⟩)
        go_ret
        exact ⟨rfl, hb0⟩
      | true =>
        go_enter Try.func148, Try.ntmps148
        go_wp2_with (go_at_call 69; refine (HW.out _ _ _ _).mono ?_; rintro e w' ⟨rfl, rfl⟩)
        go_ret
        exact ⟨rfl, hb0⟩

set_option maxHeartbeats 2000000 in
theorem implValidGraph (v : Value) (g : Gr) (w : World) (hv : GrV 0 w.heap.size w v g) :
    Calls Try.prog 116 #[v] w fun e w' => e = .returned (.bool (grOk g)) ∧ Below w.heap.size w w' := by
  obtain ⟨vs, es, rfl, ⟨A1, c1, rfl, hl1, hm1, hx1⟩, ⟨A2, c2, rfl, hl2, hm2, hx2⟩⟩ := hv
  unfold maxLen at hm1 hm2
  have hb0 : Below w.heap.size w (w.alloc (.cells #[.slice A1 g.vals.length c1, .slice A2 g.edges.length c2] 45)) := (Below.refl _ _).alloc (Nat.le_refl _) _
  have HW := Lib.hid within_any
  have HX1 := Lib.hid hx1
  have HX2 := Lib.hid hx2
  clear hx1 hx2
  go_enter Try.func116, Try.ntmps116
  go_wp2_with fail
  go_loop [14] (fun ii => ∃ i : Nat, i ≤ g.vals.length ∧ ii = .int .i64 i ∧ (g.vals.take i).all (fun v => wi v 0 2) = true) (fun ii => g.vals.length - (intOf ii).toNat)
  case atStart => exact ⟨0, Nat.zero_le _, rfl, rfl⟩
  case round =>
    obtain ⟨i, hi, rfl, hall⟩ := hrel
    have HA := Lib.hid hall
    clear hall
    by_cases hlt : i < g.vals.length
    · have hxi : g.vals[i]? = some g.vals[i] := List.getElem?_eq_getElem hlt
      obtain ⟨b, o, rfl, -, hb1, hc⟩ := HX1.out i _ hxi
      generalize g.vals[i] = x at hc hxi
      have c0 := hc 0 _ rfl
      simp only [Nat.mul_one, Nat.add_zero] at c0
      have HX := Lib.hid hxi
      clear hc hxi
      cases g4 : wi x 0 2 with
      | true =>
        have G4 := Lib.hid g4
        go_wp2_with (go_at_call 69; refine (HW.out _ _ _ _).mono ?_; rintro e w' ⟨rfl, rfl⟩)
        go_round
        case rel => exact ⟨i + 1, by omega, by go_num, all_take_succ HX.out HA.out G4.out⟩
        case measure => simp [intOf]; omega
      | false =>
        have hfin : grOk g = false := by
          rw [grOk, all_false_of HX.out g4]
          rfl
        have HF := Lib.hid hfin
        clear hfin
        go_wp2_with (go_at_call 69; refine (HW.out _ _ _ _).mono ?_; rintro e w' ⟨rfl, rfl⟩)
        go_ret
        exact ⟨by rw [HF.out]; rfl, hb0⟩
    · obtain rfl : i = g.vals.length := by omega
      have hallv : g.vals.all (fun v => wi v 0 2) = true := by have := HA.out; rwa [List.take_length] at this
      have HV := Lib.hid hallv
      clear hallv HA
      go_wp2_with fail
      go_loopw [25] (fun ii wr => ∃ (i : Nat) (u : World), i ≤ g.edges.length ∧ ii = .int .i64 i ∧ (List.range i).all (edAt g.vals.length g.edges) = true ∧ wr = ext (w.alloc (.cells #[.slice A1 g.vals.length c1, .slice A2 g.edges.length c2] 45)) u) (fun ii _ => g.edges.length - (intOf ii).toNat)
      case atStart => exact ⟨0, _, Nat.zero_le _, rfl, rfl, ext_self _⟩
      case round =>
        obtain ⟨i, u, hi, rfl, hall, rfl⟩ := hrel
        have HA := Lib.hid hall
        clear hall
        by_cases hlt : i < g.edges.length
        · have hxi : g.edges[i]? = some g.edges[i] := List.getElem?_eq_getElem hlt
          obtain ⟨b, o', rfl, -, hb1, hc⟩ := HX2.out i _ hxi
          generalize g.edges[i] = x at hc hxi
          have c0 := hc 0 _ rfl
          have c1' := hc 1 _ rfl
          have c2' := hc 2 _ rfl
          have c3 := hc 3 _ rfl
          simp only [Nat.add_zero] at c0
          have HX := Lib.hid hxi
          have hlen : g.vals.length ≤ 9223372036854775807 := by omega
          clear hc hxi
          have hgr : grOk g = ((List.range g.edges.length).all (edAt g.vals.length g.edges) && wi g.vals.length 1 5 && decide (g.edges.length ≤ 12)) := by
            rw [grOk, HV.out]; rfl
          have HGR := Lib.hid hgr
          clear hgr
          cases g4 : edOk g.vals.length x with
          | false =>
            have hfin : grOk g = false := by
              rw [HGR.out, range_all_false hlt (by rw [edAt, HX.out]; simp [g4])]
              rfl
            have HF := Lib.hid hfin
            clear hfin
            go_wp2_with fail
            refine wp_region_ext_lit (by kernel_rfl) (by kernel_rfl) ?_
            repeat (go_big_quiet_step ((go_at_call 148; exact Calls.ext_of (edgeOk_any x g.vals.length _ hlen))))
            refine wpQuiet_nil ?_
            intro _ hw'
            obtain ⟨u2, hw''⟩ := hw'
            subst hw''
            go_wp2_with fail
            go_ret
            exact ⟨by rw [HF.out]; rfl, below_trans hb0 (below_trans (ext_below _ _) (below_trans ((Below.refl _ _).alloc (Nat.le_refl _) _) (ext_below _ _)))⟩
          | true =>
            have G4 := Lib.hid g4
            have hbx : ∀ o u2, ∃ z, ext ((ext (w.alloc (.cells #[.slice A1 g.vals.length c1, .slice (some ⟨b, o', none⟩) g.edges.length c2] 45)) u).alloc o) u2 = ext (w.alloc (.cells #[.slice A1 g.vals.length c1, .slice (some ⟨b, o', none⟩) g.edges.length c2] 45)) z :=
              fun o u2 => ext_of (below_trans (ext_below _ _) (below_trans ((Below.refl _ _).alloc (Nat.le_refl _) _) (ext_below _ _)))
            by_cases hi0 : i = 0
            · subst hi0
              have hat : edAt g.vals.length g.edges 0 = true := by rw [edAt, HX.out]; simp [G4.out]
              have HAT := Lib.hid hat
              clear hat
              simp only [Nat.zero_mul, Nat.add_zero, Nat.zero_add] at c0 c1' c2' c3
              go_wp2_with fail
              refine wp_region_ext_lit (by kernel_rfl) (by kernel_rfl) ?_
              repeat (go_big_quiet_step ((go_at_call 148; exact Calls.ext_of (edgeOk_any x g.vals.length _ hlen))))
              refine wpQuiet_nil ?_
              intro _ hw'
              obtain ⟨u2, hw''⟩ := hw'
              subst hw''
              go_wp2_with fail
              go_roundw
              case rel =>
                obtain ⟨z, hz⟩ := hbx _ u2
                exact ⟨1, z, by omega, by go_num, range_all_succ HA.out HAT.out, hz⟩
              case measure => simp [intOf]; omega
            · have hi1 : 0 < i := by omega
              have hxj : g.edges[i - 1]? = some g.edges[i - 1] := List.getElem?_eq_getElem (by omega)
              obtain ⟨b9, o9, ho9, -, -, hcj⟩ := HX2.out (i - 1) _ hxj
              obtain ⟨rfl, rfl⟩ : b = b9 ∧ o' = o9 := by injection ho9 with h1; injection h1 with h1 h2; exact ⟨h1, h2⟩
              generalize g.edges[i - 1] = p at hcj hxj
              have hb1' : b < w.heap.size + 1 := by omega
              have p0 := hcj 0 _ rfl
              simp only [Nat.add_zero] at p0
              have HXJ := Lib.hid hxj
              have hi00 : ((i : Int) > 0) := by omega
              clear hcj hxj ho9
              by_cases hlt2 : p.1 < x.1
              · have hat : edAt g.vals.length g.edges i = true := by rw [edAt, HX.out]; simp [G4.out, HXJ.out, hlt2]
                have hge : decide (p.1 ≥ x.1) = false := by simp; omega
                have HAT := Lib.hid hat
                clear hat
                go_wp2_with fail
                have q1 : IntKind.i64.wrap ((i : Int) - 1) = (i : Int) - 1 := IntWalk.i64_in _ (by omega)
                have q2 : 0 ≤ (i : Int) - 1 := by omega
                have q3 : (i : Int) - 1 < (g.edges.length : Int) := by omega
                have q4 : ((i : Int) - 1).toNat = i - 1 := by omega
                refine wp_region_ext_lit (by kernel_rfl) (by kernel_rfl) ?_
                repeat (go_big_quiet_step ((go_at_call 148; exact Calls.ext_of (edgeOk_any x g.vals.length _ hlen))))
                refine wpQuiet_nil ?_
                intro _ hw'
                obtain ⟨u2, hw''⟩ := hw'
                subst hw''
                clear q1 q2 q3 q4
                go_wp2_with fail
                go_roundw
                case rel =>
                  obtain ⟨z, hz⟩ := hbx _ u2
                  exact ⟨i + 1, z, by omega, by go_num, range_all_succ HA.out HAT.out, hz⟩
                case measure => simp [intOf]; omega
              · have hfin : grOk g = false := by
                  rw [HGR.out, range_all_false hlt (by rw [edAt, HX.out]; simp [G4.out, HXJ.out, hi0]; omega)]
                  rfl
                have hge : decide (p.1 ≥ x.1) = true := by simp; omega
                have HF := Lib.hid hfin
                clear hfin
                go_wp2_with fail
                have q1 : IntKind.i64.wrap ((i : Int) - 1) = (i : Int) - 1 := IntWalk.i64_in _ (by omega)
                have q2 : 0 ≤ (i : Int) - 1 := by omega
                have q3 : (i : Int) - 1 < (g.edges.length : Int) := by omega
                have q4 : ((i : Int) - 1).toNat = i - 1 := by omega
                refine wp_region_ext_lit (by kernel_rfl) (by kernel_rfl) ?_
                repeat (go_big_quiet_step ((go_at_call 148; exact Calls.ext_of (edgeOk_any x g.vals.length _ hlen))))
                refine wpQuiet_nil ?_
                intro _ hw'
                obtain ⟨u2, hw''⟩ := hw'
                subst hw''
                clear q1 q2 q3 q4
                go_wp2_with fail
                go_ret
                exact ⟨by rw [HF.out]; rfl, below_trans hb0 (below_trans (ext_below _ _) (below_trans ((Below.refl _ _).alloc (Nat.le_refl _) _) (ext_below _ _)))⟩
        · obtain rfl : i = g.edges.length := by omega
          have hgr : grOk g = (wi g.vals.length 1 5 && decide (g.edges.length ≤ 12)) := by
            rw [grOk, HV.out, HA.out]; rfl
          have HGR := Lib.hid hgr
          clear hgr HA HV
          cases g5 : wi g.vals.length 1 5 with
          | false =>
            rw [g5] at HGR
            go_wp2_with (go_at_call 69; refine (HW.out _ _ _ _).mono ?_; rintro e w' ⟨rfl, rfl⟩)
            go_ret
            exact ⟨by rw [HGR.out]; rfl, below_trans hb0 (ext_below _ _)⟩
          | true =>
            rw [g5] at HGR
            have HG5 := Lib.hid g5
            by_cases g6 : g.edges.length ≤ 12
            · have g6' : decide ((g.edges.length : Int) ≤ 12) = true := by simp; omega
              have hfin : grOk g = true := by rw [HGR.out]; simp [g6]
              have HF := Lib.hid hfin
              clear hfin HGR
              go_wp2_with (go_at_call 69; refine (HW.out _ _ _ _).mono ?_; rintro e w' ⟨rfl, rfl⟩)
              go_ret
              exact ⟨by rw [HF.out]; rfl, below_trans hb0 (ext_below _ _)⟩
            · have g6' : decide ((g.edges.length : Int) ≤ 12) = false := by simp; omega
              have hfin : grOk g = false := by rw [HGR.out]; simp [g6]
              have HF := Lib.hid hfin
              clear hfin HGR
              go_wp2_with (go_at_call 69; refine (HW.out _ _ _ _).mono ?_; rintro e w' ⟨rfl, rfl⟩)
              go_ret
              exact ⟨by rw [HF.out]; rfl, below_trans hb0 (ext_below _ _)⟩
/-- slices.IndexFunc over edges, at EdgeIndex's closure -/
theorem indexFuncEdge (k0 : Value) (v : Value) (xs : List Ed) (p : Ed → Prop) (w : World) (hv : SlE w cEd 4 v xs)
    (hF : ∀ x ∈ xs, ∀ W : World, Below w.heap.size w W → Calls Try.prog 194 #[.agg #[.int .i64 x.1, .int .i64 x.2.1, .int .i64 x.2.2.1, .int .i64 x.2.2.2], k0] W fun e W' => ∃ b, e = .returned (.bool b) ∧ (b = true ↔ p x) ∧ Below W.heap.size W W') :
    Calls Try.prog 193 #[v, .func (Fn.func 194) #[] #[k0]] w fun e w' => ∃ r : Int, e = .returned (.int .i64 r) ∧ Below w.heap.size w w' ∧
      ((r = -1 ∧ ∀ x ∈ xs, ¬ p x) ∨ ∃ (i : Nat) (x : Ed), r = i ∧ xs[i]? = some x ∧ p x ∧ ∀ y ∈ xs.take i, ¬ p y) := by
  obtain ⟨A, c, rfl, hl, hm, hx⟩ := hv
  unfold maxLen at hm
  have HF := Lib.hid hF
  have HX := Lib.hid hx
  clear hF hx
  go_enter Try.func193, Try.ntmps193
  go_wp2_with fail
  go_loopw [8] (fun ii wr => ∃ (i : Nat) (u : World), i ≤ xs.length ∧ ii = .int .i64 i ∧ (∀ y ∈ xs.take i, ¬ p y) ∧ wr = ext w u) (fun ii _ => xs.length - (intOf ii).toNat)
  case atStart => exact ⟨0, w, Nat.zero_le _, rfl, by simp, ext_self w⟩
  case round =>
    obtain ⟨i, u, hi, rfl, hno, rfl⟩ := hrel
    have HN := Lib.hid hno
    clear hno
    by_cases hlt : i < xs.length
    · have hxi : xs[i]? = some xs[i] := List.getElem?_eq_getElem hlt
      generalize xs[i] = x at hxi
      obtain ⟨b, o, rfl, -, hb, hc⟩ := HX.out i x hxi
      have c0 := hc 0 _ rfl
      have c1' := hc 1 _ rfl
      have c2' := hc 2 _ rfl
      have c3 := hc 3 _ rfl
      simp only [Nat.add_zero] at c0
      have HXI := Lib.hid hxi
      clear hc hxi
      go_wp2_with fail
      refine (HF.out x (List.mem_of_getElem? HXI.out) _ (ext_below w u)).mono ?_
      rintro e w1 ⟨bb, rfl, hbb, hb1⟩
      have HBB := Lib.hid hbb
      clear hbb
      cases bb with
      | true =>
        go_wp2_with fail
        go_ret
        exact ⟨_, rfl, below_trans (ext_below w u) hb1, .inr ⟨i, x, rfl, HXI.out, HBB.out.1 (by first | rfl | trivial), HN.out⟩⟩
      | false =>
        go_wp2_with fail
        go_roundw
        case rel =>
          obtain ⟨z, hz⟩ := ext_of (below_trans (ext_below w u) hb1)
          refine ⟨i + 1, z, by omega, by go_num, fun y hy => ?_, hz⟩
          rw [take_snoc HXI.out] at hy
          rcases List.mem_append.1 hy with hy | hy
          · exact HN.out y hy
          · have : y = x := by simpa using hy
            subst this
            exact fun h => by have := HBB.out.2 h; cases this
        case measure => simp [intOf]; omega
    · obtain rfl : i = xs.length := by omega
      go_wp2_with fail
      go_ret
      exact ⟨_, rfl, ext_below w u, .inl ⟨rfl, fun x hx => HN.out x (by rw [List.take_length]; exact hx)⟩⟩

set_option maxHeartbeats 1000000 in
theorem implEdgeIndex (v : Value) (g : Gr) (id : Int) (w : World) (hv : GrV 0 w.heap.size w v g) :
    Calls Try.prog 192 #[v, .int .i64 id] w fun e w' => e = .returned (.int .i64 (edgeIdx g id)) ∧ Below w.heap.size w w' := by
  obtain ⟨vs, es, rfl, -, hes⟩ := hv
  have hb0 : Below w.heap.size w ((w.alloc (.cells #[vs, es] 45)).alloc (.cells #[.int .i64 id] 3)) := ((Below.refl _ _).alloc (Nat.le_refl _) _).alloc (by simp) _
  have b1 := Blk.new (w.alloc (.cells #[vs, es] 45)) 3 #[.int .i64 id] (w.heap.size + 1) (by simp)
  go_enter Try.func192, Try.ntmps192
  go_wp2_with fail
  refine (indexFuncEdge _ es g.edges (fun e => e.1 = id) _ (SlE.keep hes hb0) (fun x hx W hW => ?_)).mono ?_
  · have b1' := b1.keep hW
    have y0 : W.cell? ⟨w.heap.size + 1, 0, none⟩ = some _ := b1'.cell 0
    have hlt := b1'.lt
    clear hb0 b1 b1' hW
    obtain ⟨x1, x2, x3, x4⟩ := x
    go_enter Try.func194, Try.ntmps194
    go_wp2_with fail
    go_ret
    refine ⟨_, rfl, by simp, (Below.refl _ _).alloc (Nat.le_refl _) _⟩
  · rintro e w1 ⟨r, rfl, hb1, hr⟩
    have hfin : edgeIdx g id = r := by
      rcases hr with ⟨rfl, h⟩ | ⟨i, x, rfl, hx, hp, hno⟩
      · exact edgeIdx_none h
      · exact edgeIdx_some hx hp hno
    subst hfin
    clear hr
    go_wp2_with fail
    go_ret
    exact ⟨rfl, below_trans hb0 hb1⟩
end Go.Proofs.Ytgdgelkeflihpaa

