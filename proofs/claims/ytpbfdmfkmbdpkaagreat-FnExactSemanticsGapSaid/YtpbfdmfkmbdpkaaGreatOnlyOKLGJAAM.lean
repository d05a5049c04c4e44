/- Parts of the proof, joined into one text: RankS, AnsM. -/
import Derived.Test.YtpbfdmfkmbdpkaaGreatOnlyDNMGAIAE
import Derived.Test.YtpbfdmfkmbdpkaaGreatOnlyFIIKIIGF
import Derived.Deep.LoopGhost
namespace Go.Proofs.YtpbfdmfkmbdpkaaGreat
set_option linter.unusedVariables false
set_option linter.unusedSimpArgs false
open Go.ChangeShapes Go.WideShapes Go.ChangeAt Go.RowKit
attribute [local go_sem] ext_cell ext_frozen ext_lt ext_lt1 ext_lt2 ext_lt3 ltn2 ltn3 ltn13 lts1 lts2 lts3
def distFrom (g : Gr) (a : Au) (x : Int) : List Int :=
  if (wi x 0 ((g.vals.length : Int) - 1) && (grOk g && auOk a)) = true then spreadR (g.vals.length * a.accept.length) (nextI g a) [x.toNat * a.accept.length + a.start.toNat] else []
theorem distFrom_len {g : Gr} {a : Au} {x : Int} (h : (wi x 0 ((g.vals.length : Int) - 1) && (grOk g && auOk a)) = true) : (distFrom g a x).length = g.vals.length * a.accept.length := by rw [distFrom, if_pos h, spreadR_len]
theorem flatN_atR {xs : List Nat} {t : Nat} {x : Nat} (h : xs[t]? = some x) : (xs.flatMap cN)[t]? = some (.int .i64 (x : Int)) := by
  have := flat_at cN_len h 0 _ rfl
  simpa using this
theorem SlI.grown {α : Type} {lo hi : Nat} {w w' : World} {E : α → List Value} {k : Nat} {v : Value} {xs : List α} (h : SlI lo hi w E k v xs) {row : Option Nat} (hg : w.grownBy w' row) (hh : hi ≤ w.heap.size) (hn : ∀ b, row = some b → b < lo ∨ hi ≤ b) : SlI lo hi w' E k v xs :=
  h.keep_ fun b o h1 h2 => World.cell?_of_block (w := w) (hg.block b (by omega) (fun e => by have := hn b e.symm; omega))
theorem ownsRow_far {w : World} {base k n : Nat} {e : TypeId} {v : Value} {cs : List Value} (h : w.ownsRow base e k v n cs) {p : Addr} (hp : p.block < base) (u : Value) : (w.setCell p u).ownsRow base e k v n cs :=
  ownsRow_block h fun g hg => Below.heap_setCell _ _ _ _ (by have := (h.lt g hg).1; omega)
set_option maxHeartbeats 8000000 in
set_option maxRecDepth 100000 in
theorem l14Ranks_any (vg va : Value) (g : Gr) (a : Au) (x : Nat) (w : World) (hgv : GrV 0 w.heap.size w vg g) (hav : AuV 0 w.heap.size w va a) (hgo : grOk g = true) (ha : auOk a = true) (hx : x < g.vals.length) :
    Calls Tryz.prog 82 #[vg, va, .int .i64 (x : Int)] w fun e w' => ∃ v', e = .returned v' ∧ Own w.heap.size w'.heap.size w' 3 cI 1 v' (distFrom g a (x : Int)) ∧ Below w.heap.size w w' := by
  have hg := grOk_iff.1 hgo
  have hav0 := hav
  have hgv0 := hgv
  obtain ⟨A1, c1, A2, c2, rfl, hl1, hm1, hl2, hm2, -, -⟩ := hgv.form
  obtain ⟨A3, c3, A4, c4, rfl, hl3, hm3, hl4, hm4, -⟩ := hav.form ha
  have hn5 := hg.n5
  have hgn1 := hg.n1
  obtain ⟨⟨hn1, hn12⟩, ⟨hst0, hst1⟩, -, -⟩ := auOk_iff.1 ha
  obtain ⟨N, hN⟩ : ∃ N, N = g.vals.length * a.accept.length := ⟨_, rfl⟩
  have hN60 : N ≤ 60 := by rw [hN]; exact Nat.mul_le_mul hn5 hn12
  obtain ⟨s, hs⟩ : ∃ s : Nat, a.start = (s : Int) := ⟨a.start.toNat, by omega⟩
  obtain ⟨xn, hxn⟩ : ∃ xn, xn = x * a.accept.length := ⟨_, rfl⟩
  have hxn2 : xn + a.accept.length ≤ N := by rw [hxn, hN]; have := Nat.mul_le_mul_right a.accept.length (show x + 1 ≤ g.vals.length by omega); rw [Nat.succ_mul] at this; exact this
  obtain ⟨S0, hS0⟩ : ∃ S0, S0 = xn + s := ⟨_, rfl⟩
  have hS0N : S0 < N := by omega
  have m0' : (g.vals.length : Int) * (a.accept.length : Int) = (N : Int) := by rw [hN, Int.natCast_mul]
  have m0 : IntKind.i64.wrap ((g.vals.length : Int) * (a.accept.length : Int)) = (N : Int) := by rw [m0']; exact IntWalk.i64_in _ (by omega)
  have m1' : (x : Int) * (a.accept.length : Int) = (xn : Int) := by rw [hxn, Int.natCast_mul]
  have m1 : IntKind.i64.wrap ((x : Int) * (a.accept.length : Int)) = (xn : Int) := by rw [m1']; exact IntWalk.i64_in _ (by omega)
  have m2' : (xn : Int) + (s : Int) = (S0 : Int) := by omega
  have m2 : IntKind.i64.wrap ((xn : Int) + (s : Int)) = (S0 : Int) := by rw [m2']; exact IntWalk.i64_in _ (by omega)
  obtain ⟨R, hR⟩ : ∃ R, R = distFrom g a (x : Int) := ⟨_, rfl⟩
  have hR2 : R = bfs (nextI g a) (1 + N) (srcD N [S0]) [S0] := by
    rw [hR, distFrom, if_pos (by simp only [Bool.and_eq_true, wi_iff]; exact ⟨by omega, hgo, ha⟩), Int.toNat_natCast, ← hxn, ← hN, hs, Int.toNat_natCast, ← hS0]; rfl
  rw [← hR]
  have hnN : ∀ i k, i < N → k ∈ nextI g a i → k < N := fun i k _ hk => by rw [hN]; exact nextV_lt hg ha hk
  have hini := srcD_bfsI (N := N) (fs := [S0]) (by intro i hi; rw [List.mem_singleton] at hi; omega)
  have hsrc : srcD N [S0] = (List.replicate N (-1)).set S0 0 := rfl
  have HGO := Lib.hid hgo
  have HAO := Lib.hid ha
  have HAV := Lib.hid hav0
  have HGV := Lib.hid hgv0
  have HR := Lib.hid hR2
  have HN := Lib.hid hN
  have HNN := Lib.hid hnN
  have HINI := Lib.hid hini
  have HSRC := Lib.hid hsrc
  rw [hs] at HAV ⊢
  have hb0 : Below w.heap.size w ((w.alloc (.cells #[.slice A1 g.vals.length c1, .slice A2 g.edges.length c2] 36)).alloc (.cells #[.int .i64 (s : Int), .slice A3 a.accept.length c3, .slice A4 a.accept.length c4] 38)) := ((Below.refl _ _).alloc (Nat.le_refl _) _).alloc (by simp) _
  clear hgv hav ha hg hgo hav0 hgv0 hR hR2 hN hnN hini hsrc hxn hS0 hs hst0 hst1
  go_enter Tryz.func82, Tryz.ntmps82
  go_wp2_with fail
  obtain ⟨W0, hW0⟩ : ∃ W0, W0 = ((w.alloc (.cells #[.slice A1 g.vals.length c1, .slice A2 g.edges.length c2] 36)).alloc (.cells #[.int .i64 (s : Int), .slice A3 a.accept.length c3, .slice A4 a.accept.length c4] 38)) := ⟨_, rfl⟩
  rw [← hW0] at hb0 ⊢
  have x0 : W0.cell? ⟨w.heap.size, 0, none⟩ = some (.slice A1 g.vals.length c1) := by rw [hW0]; simp
  have x1 : W0.cell? ⟨w.heap.size, 1, none⟩ = some (.slice A2 g.edges.length c2) := by rw [hW0]; simp
  have y0 : W0.cell? ⟨w.heap.size + 1, 0, none⟩ = some (.int .i64 (s : Int)) := by rw [hW0]; simp
  have y1 : W0.cell? ⟨w.heap.size + 1, 1, none⟩ = some (.slice A3 a.accept.length c3) := by rw [hW0]; simp
  have y2 : W0.cell? ⟨w.heap.size + 1, 2, none⟩ = some (.slice A4 a.accept.length c4) := by rw [hW0]; simp
  have hs0 : w.heap.size + 1 + 1 = W0.heap.size := by rw [hW0]; simp
  rw [hs0]
  have l0 : w.heap.size + 1 < W0.heap.size := by omega
  have l00 : w.heap.size < W0.heap.size := by omega
  clear hW0 hs0
  go_loopw [8, 9] (fun dd kk wr => ∃ k : Nat, k ≤ N ∧ kk = .int .i64 (k : Int) ∧ wr.ownsRow W0.heap.size 3 1 dd (List.replicate k (-1 : Int)).length ((List.replicate k (-1 : Int)).flatMap cI) ∧ Below W0.heap.size W0 wr) (fun _ kk _ => N - (intOf kk).toNat)
  case atStart => exact ⟨0, Nat.zero_le _, rfl, World.ownsRow_lit W0 #[] 0 (Nat.le_refl _) (by decide) rfl, (Below.refl _ _).alloc (Nat.le_refl _) _⟩
  case round =>
    obtain ⟨k, hk, rfl, hrow, hbel⟩ := hrel
    have HROW := Lib.hid hrow
    have x0 := kcell hbel x0
    have x1 := kcell hbel x1
    have y0 := kcell hbel y0
    have y1 := kcell hbel y1
    have y2 := kcell hbel y2
    have hsz := hbel.size
    have l0 := Nat.lt_of_lt_of_le l0 hsz
    have l00 := Nat.lt_of_lt_of_le l00 hsz
    have hbw := below_trans hb0 hbel
    have HBW := Lib.hid hbw
    clear hrow hbw
    by_cases hlt : k < N
    · have HSN := Lib.hid (show List.replicate (k + 1) (-1 : Int) = List.replicate k (-1) ++ [-1] from List.replicate_succ')
      have hil : (List.replicate k (-1 : Int)).length ≤ 60 := by rw [List.length_replicate]; omega
      have hki : (k : Int) < (N : Int) := by omega
      generalize List.replicate k (-1 : Int) = D at *
      go_wp2_with (at_builtin; (refine wpList_append1 cI elInt rfl _ _ rfl W0.heap.size _ (D) (-1) _ 1 _ (by rfl) (HROW.out) (by rfl) rfl rfl rfl (cI_one _) (by omega) (by omega) (by omega) ?_); intro v' w4 hrow' hb4 _ _)
      go_roundw
      case rel => exact ⟨k + 1, by omega, by go_num, by rw [HSN.out]; exact hrow', hbel.trans hb4⟩
      case measure => simp [intOf]; omega
    · obtain rfl : k = N := by omega
      clear hlt hk
      obtain ⟨wo, rfl⟩ : ∃ wo : World, wo = wr := ⟨_, rfl⟩
      have hrow := HROW.out
      rw [List.length_replicate] at hrow
      obtain ⟨gD, cD, rfl, hgD, hgDo, -, -⟩ := own_some hrow (by omega)
      have hDc := World.ownsRow.cellAt hrow S0 (by omega)
      rw [flatI_at (x := -1) (by rw [List.getElem?_replicate, if_pos hS0N])] at hDc
      have hDf := World.ownsRow.frozenAt hrow S0
      have hrow2 := (World.ownsRow.stored hrow S0 (.int .i64 0)).1
      rw [flatI_set, ← HSRC.out] at hrow2
      have HR2 := Lib.hid hrow2
      have hS0i : (S0 : Int) < (k : Int) := by omega
      clear hrow hrow2 HROW HSRC
      go_wp2_with fail
      obtain ⟨N, hNk⟩ : ∃ N, N = k := ⟨_, rfl⟩
      subst hNk
      have hwo := HBW.out.size
      have hb1 := hb0.size
      clear hDc hDf m0 m0' m1 m1' m2 m2'
      go_loopg [10, 11] (1 + N) (fun f qv ii wr => ∃ (i : Nat) (D : List Int) (Q : List Nat), i ≤ Q.length ∧ i + f = 1 + N ∧ ii = .int .i64 (i : Int) ∧ BfsI N (1 + N) f D (Q.drop i) ∧ bfs (nextI g a) f D (Q.drop i) = R ∧ wr.ownsRow W0.heap.size 3 1 (.slice (some ⟨gD, 0, none⟩) N cD) N (D.flatMap cI) ∧
        wr.ownsRow wo.heap.size 3 1 qv Q.length (Q.flatMap cN) ∧ Only gD (gD + 1) wo wr)
      case atStart => exact ⟨0, srcD N [S0], [S0], Nat.zero_le _, by omega, rfl, HINI.out, HR.out.symm, HR2.out.alloc _, by (have h := World.ownsRow_lit (base := wo.heap.size) (e := 3) (size := 1) (wo.setCell ⟨gD, S0, none⟩ (.int .i64 0)) #[.int .i64 (S0 : Int)] 1 (by simp) (by decide) rfl); rw [World.size_setCell] at h; exact h, ((Only.refl gD (gD + 1) wo).setCell (p := ⟨gD, S0, none⟩) (.inl ⟨Nat.le_refl _, Nat.lt_succ_self _⟩) _).alloc _⟩
      case round =>
        clear HR2 HINI hbel
        obtain ⟨i, D, Q, hi, hif, rfl, hI, hB, hrow, hq, hon⟩ := hrel
        have HI := Lib.hid hI
        have HB := Lib.hid hB
        have HROW := Lib.hid hrow
        have HQ := Lib.hid hq
        have x0 := ocell hon x0 l00 (.inl (by omega))
        have x1 := ocell hon x1 l00 (.inl (by omega))
        have y0 := ocell hon y0 l0 (.inl (by omega))
        have y1 := ocell hon y1 l0 (.inl (by omega))
        have y2 := ocell hon y2 l0 (.inl (by omega))
        have hbw := HBW.out.trans (hon.below (by omega) hwo)
        have HBWR := Lib.hid hbw
        have hsz2 := hon.size
        clear hI hB hrow hq hbw
        by_cases hlt : i < Q.length
        · have hdr : Q.drop i = Q[i] :: Q.drop (i + 1) := List.drop_eq_getElem_cons hlt
          have hqi : Q[i]? = some Q[i] := List.getElem?_eq_getElem hlt
          generalize Q[i] = h at hdr hqi
          rw [hdr] at HI HB
          obtain ⟨f, rfl⟩ : ∃ f, gk = f + 1 := ⟨gk - 1, by have := HI.out.fuel; rw [List.length_cons] at this; omega⟩
          obtain ⟨hhN, hh0⟩ := HI.out.queue h (by simp)
          have hql : Q.length ≤ 61 := by
            have h1 := HI.out.fuel
            rw [← hdr, List.length_drop] at h1
            omega
          obtain ⟨gQ, cQ, rfl, hgQ, hgQw, -, -⟩ := own_some HQ.out (by omega)
          have hqc := (World.ownsRow.cellAt HQ.out i (by omega)).trans (flatN_atR hqi)
          have qc := hqc
          have hgp : g.vals.length * a.accept.length = N := HN.out.symm
          obtain ⟨X, hX⟩ : ∃ X, X = h / a.accept.length := ⟨_, rfl⟩
          obtain ⟨S, hS⟩ : ∃ S, S = h % a.accept.length := ⟨_, rfl⟩
          have hXl : X < g.vals.length := by rw [hX]; exact Nat.div_lt_of_lt_mul (by rw [Nat.mul_comm, hgp]; exact hhN)
          have hSl : S < a.accept.length := by rw [hS]; exact Nat.mod_lt _ hn1
          have t1 : (h : Int).tdiv (a.accept.length : Int) = (X : Int) := by rw [hX]; rfl
          have t2 : (h : Int).tmod (a.accept.length : Int) = (S : Int) := by rw [hS]; rfl
          have hn0 : ((a.accept.length : Int) == 0) = false := by simp only [beq_eq_false_iff_ne, ne_eq]; omega
          have hae : a.accept ≠ [] := by intro h; rw [h] at hn1; simp at hn1
          have HPX := Lib.hid (show prodSteps g a X S = psI g a h by rw [hX, hS]; rfl)
          have q1 : IntKind.i64.wrap (X : Int) = (X : Int) := IntWalk.i64_in _ (by omega)
          have q2 : IntKind.i64.wrap (S : Int) = (S : Int) := IntWalk.i64_in _ (by omega)
          have hii : (i : Int) < (Q.length : Int) := by omega
          have HQI := Lib.hid hqi
          have HDR := Lib.hid hdr
          clear hX hS hgp hdr hqi
          go_wp2_with fail
          refine F_start 15 (fun w' => w'.cell? ⟨w.heap.size, 0, none⟩ = some (.slice A1 g.vals.length c1) ∧ w'.cell? ⟨w.heap.size, 1, none⟩ = some (.slice A2 g.edges.length c2) ∧ w'.cell? ⟨w.heap.size + 1, 0, none⟩ = some (.int .i64 (s : Int)) ∧ w'.cell? ⟨w.heap.size + 1, 1, none⟩ = some (.slice A3 a.accept.length c3) ∧ w'.cell? ⟨w.heap.size + 1, 2, none⟩ = some (.slice A4 a.accept.length c4) ∧ w'.cell? ⟨gQ, i, none⟩ = some (.int .i64 (h : Int))) (by kernel_rfl) (by exact ⟨x0, x1, y0, y1, y2, qc⟩) (fun hS inv => ?_)
          refine F_take (i := 0) (v := ?_) rfl (by kernel_rfl) (by kernel_rfl) (by kernel_rfl) (fun _ _ _ h => h) inv (Or.inl ⟨by rfl, ?_⟩) (by assumption) (fun invn => ?_)
          rotate_left
          · (intro w hSw; (try dsimp only at hSw); go_simp; try with_reducible rfl)
          try simp only [List.getElem_toArray, List.getElem_cons_zero, List.getElem_cons_succ, Act.put, List.setIfInBounds_toArray, List.set_cons_zero, List.set_cons_succ]
          clear inv
          have inv := invn
          clear invn
          refine F_take (i := 1) (v := ?_) rfl (by kernel_rfl) (by kernel_rfl) (by kernel_rfl) (fun _ _ _ h => h) inv (Or.inl ⟨by rfl, ?_⟩) (by assumption) (fun invn => ?_)
          rotate_left
          · (intro w hSw; (try dsimp only at hSw); go_simp; try with_reducible rfl)
          try simp only [List.getElem_toArray, List.getElem_cons_zero, List.getElem_cons_succ, Act.put, List.setIfInBounds_toArray, List.set_cons_zero, List.set_cons_succ]
          clear inv
          have inv := invn
          clear invn
          refine F_take (i := 2) (v := ?_) rfl (by kernel_rfl) (by kernel_rfl) (by kernel_rfl) (fun _ _ _ h => h) inv (Or.inl ⟨by rfl, ?_⟩) (by assumption) (fun invn => ?_)
          rotate_left
          · (intro w hSw; (try dsimp only at hSw); go_simp; try with_reducible rfl)
          try simp only [List.getElem_toArray, List.getElem_cons_zero, List.getElem_cons_succ, Act.put, List.setIfInBounds_toArray, List.set_cons_zero, List.set_cons_succ]
          clear inv
          have inv := invn
          clear invn
          refine F_take (i := 3) (v := ?_) rfl (by kernel_rfl) (by kernel_rfl) (by kernel_rfl) (fun _ _ _ h => h) inv (Or.inl ⟨by rfl, ?_⟩) (by assumption) (fun invn => ?_)
          rotate_left
          · (intro w hSw; (try dsimp only at hSw); go_simp; try with_reducible rfl)
          try simp only [List.getElem_toArray, List.getElem_cons_zero, List.getElem_cons_succ, Act.put, List.setIfInBounds_toArray, List.set_cons_zero, List.set_cons_succ]
          clear inv
          have inv := invn
          clear invn
          refine F_take (i := 4) (v := ?_) rfl (by kernel_rfl) (by kernel_rfl) (by kernel_rfl) (fun _ _ _ h => h) inv (Or.inl ⟨by rfl, ?_⟩) (by assumption) (fun invn => ?_)
          rotate_left
          · (intro w hSw; (try dsimp only at hSw); go_simp; try with_reducible rfl)
          try simp only [List.getElem_toArray, List.getElem_cons_zero, List.getElem_cons_succ, Act.put, List.setIfInBounds_toArray, List.set_cons_zero, List.set_cons_succ]
          clear inv
          have inv := invn
          clear invn
          refine F_take (i := 5) (v := ?_) rfl (by kernel_rfl) (by kernel_rfl) (by kernel_rfl) (fun _ _ _ h => h) inv (Or.inl ⟨by rfl, ?_⟩) (by assumption) (fun invn => ?_)
          rotate_left
          · (intro w hSw; (try dsimp only at hSw); go_simp; try with_reducible rfl)
          try simp only [List.getElem_toArray, List.getElem_cons_zero, List.getElem_cons_succ, Act.put, List.setIfInBounds_toArray, List.set_cons_zero, List.set_cons_succ]
          clear inv
          have inv := invn
          clear invn
          refine F_take (i := 6) (v := ?_) rfl (by kernel_rfl) (by kernel_rfl) (by kernel_rfl) (fun _ _ _ h => h) inv (Or.inl ⟨by rfl, ?_⟩) (by assumption) (fun invn => ?_)
          rotate_left
          · (intro w hSw; (try dsimp only at hSw); go_simp; try with_reducible rfl)
          try simp only [List.getElem_toArray, List.getElem_cons_zero, List.getElem_cons_succ, Act.put, List.setIfInBounds_toArray, List.set_cons_zero, List.set_cons_succ]
          clear inv
          have inv := invn
          clear invn
          refine F_take (i := 7) (v := ?_) rfl (by kernel_rfl) (by kernel_rfl) (by kernel_rfl) (fun _ _ _ h => h) inv (Or.inl ⟨by rfl, ?_⟩) (by assumption) (fun invn => ?_)
          rotate_left
          · (intro w hSw; (try dsimp only at hSw); go_simp; try with_reducible rfl)
          try simp only [List.getElem_toArray, List.getElem_cons_zero, List.getElem_cons_succ, Act.put, List.setIfInBounds_toArray, List.set_cons_zero, List.set_cons_succ]
          clear inv
          have inv := invn
          clear invn
          refine F_take (i := 8) (v := ?_) rfl (by kernel_rfl) (by kernel_rfl) (by kernel_rfl) (fun _ _ _ h => h) inv (Or.inl ⟨by rfl, ?_⟩) (by assumption) (fun invn => ?_)
          rotate_left
          · (intro w hSw; (try dsimp only at hSw); go_simp; try with_reducible rfl)
          try simp only [List.getElem_toArray, List.getElem_cons_zero, List.getElem_cons_succ, Act.put, List.setIfInBounds_toArray, List.set_cons_zero, List.set_cons_succ]
          clear inv
          have inv := invn
          clear invn
          refine F_take (i := 9) (v := ?_) rfl (by kernel_rfl) (by kernel_rfl) (by kernel_rfl) (fun _ _ _ h => h) inv (Or.inl ⟨by rfl, ?_⟩) (by assumption) (fun invn => ?_)
          rotate_left
          · (intro w hSw; (try dsimp only at hSw); go_simp; try with_reducible rfl)
          try simp only [List.getElem_toArray, List.getElem_cons_zero, List.getElem_cons_succ, Act.put, List.setIfInBounds_toArray, List.set_cons_zero, List.set_cons_succ]
          clear inv
          have inv := invn
          clear invn
          refine F_take (i := 10) (v := ?_) rfl (by kernel_rfl) (by kernel_rfl) (by kernel_rfl) (fun _ _ _ h => h) inv (Or.inl ⟨by rfl, ?_⟩) (by assumption) (fun invn => ?_)
          rotate_left
          · (intro w hSw; (try dsimp only at hSw); go_simp; try with_reducible rfl)
          try simp only [List.getElem_toArray, List.getElem_cons_zero, List.getElem_cons_succ, Act.put, List.setIfInBounds_toArray, List.set_cons_zero, List.set_cons_succ]
          clear inv
          have inv := invn
          clear invn
          refine F_take (i := 11) (v := ?_) rfl (by kernel_rfl) (by kernel_rfl) (by kernel_rfl) (fun _ _ _ h => h) inv (Or.inl ⟨by rfl, ?_⟩) (by assumption) (fun invn => ?_)
          rotate_left
          · (intro w hSw; (try dsimp only at hSw); go_simp; try with_reducible rfl)
          try simp only [List.getElem_toArray, List.getElem_cons_zero, List.getElem_cons_succ, Act.put, List.setIfInBounds_toArray, List.set_cons_zero, List.set_cons_succ]
          clear inv
          have inv := invn
          clear invn
          refine F_take (i := 12) (v := ?_) rfl (by kernel_rfl) (by kernel_rfl) (by kernel_rfl) (fun _ _ _ h => h) inv (Or.inl ⟨by rfl, ?_⟩) (by assumption) (fun invn => ?_)
          rotate_left
          · (intro w hSw; (try dsimp only at hSw); go_simp; try with_reducible rfl)
          try simp only [List.getElem_toArray, List.getElem_cons_zero, List.getElem_cons_succ, Act.put, List.setIfInBounds_toArray, List.set_cons_zero, List.set_cons_succ]
          clear inv
          have inv := invn
          clear invn
          refine F_take (i := 13) (v := ?_) rfl (by kernel_rfl) (by kernel_rfl) (by kernel_rfl) (fun _ _ _ h => h) inv (Or.inl ⟨by rfl, ?_⟩) (by assumption) (fun invn => ?_)
          rotate_left
          · (intro w hSw; (try dsimp only at hSw); go_simp; try with_reducible rfl)
          try simp only [List.getElem_toArray, List.getElem_cons_zero, List.getElem_cons_succ, Act.put, List.setIfInBounds_toArray, List.set_cons_zero, List.set_cons_succ]
          clear inv
          have inv := invn
          clear invn
          refine F_one (i := 14) (by kernel_rfl) rfl rfl (by omega) inv (fun K hK => ?_)
          try simp only [List.getElem_toArray, List.getElem_cons_zero, List.getElem_cons_succ]
          go_simp
          refine (l14Steps_any _ _ g a X S _ (HGV.out.keep (below_trans HBWR.out ((Below.refl wr.heap.size wr).drew))) (HAV.out.keep (below_trans HBWR.out ((Below.refl wr.heap.size wr).drew))) HGO.out HAO.out hXl hSl).mono ?_
          rintro e wT ⟨vT, rfl, hoT, hbT⟩
          refine hK.out _ _ (kB6 hbT hS) (fun hSn invn => ?_)
          try simp only [List.getElem_toArray, List.getElem_cons_zero, List.getElem_cons_succ, Act.put, List.setIfInBounds_toArray, List.set_cons_zero, List.set_cons_succ]
          clear hK K inv hS
          have inv := invn
          have hS := hSn
          clear invn hSn
          refine F_last (i := 15) (by kernel_rfl) rfl rfl (by omega) (by kernel_rfl) (fun K hK => ?_)
          go_simp
          refine hK _ _ ?_
          clear hK K inv hS
          have hbWT := below_trans ((Below.refl wr.heap.size wr).drew) hbT
          have hsT := hbWT.size
          have hrT := ownsRow_below HROW.out hbWT (Nat.le_refl _)
          have hqT := ownsRow_below HQ.out hbWT (Nat.le_refl _)
          have honT := hon.trans (Only.of_below hbWT gD (gD + 1))
          have hslT : SlI wr.heap.size wT.heap.size wT cPS 4 vT (psI g a h) := by have h := hoT.sl cPS_len; rw [HPX.out] at h; exact h
          have hlp : (psI g a h).length ≤ 288 := prodSteps_len (grOk_iff.1 HGO.out) a _ _
          have hnl : (nextI g a h).length = (psI g a h).length := by rw [psI_next, List.length_map]
          obtain ⟨A7, c7, rfl, hl7, hm7, -⟩ := SlE.form (hslT.mono (Nat.zero_le _) (Nat.le_refl _))
          obtain ⟨dd, hdd⟩ : ∃ dd, dd = D.getD h 0 := ⟨_, rfl⟩
          have htop := HI.out.top h
          rw [← hdd] at htop hh0
          have HDD := Lib.hid hdd
          have HPOP := Lib.hid HI.out.pop
          have HROWT := Lib.hid hrT
          have HQT := Lib.hid hqT
          have HONT := Lib.hid honT
          have HSL := Lib.hid hslT
          have HNL := Lib.hid hnl
          have HBR := Lib.hid (show relax (dd + 1) (nextI g a h) D (Q.drop (i + 1)) = relax (dd + 1) (nextI g a h) D (Q.drop (i + 1)) from rfl)
          obtain ⟨w5, rfl⟩ : ∃ w5 : World, w5 = wr := ⟨_, rfl⟩
          clear hrT hqT honT hslT hnl hdd hon q1 q2 t1 t2 hoT hqc qc
          go_wp2_with fail
          go_loopw [10, 13] (fun qv jj wr => ∃ (j : Nat) (D' : List Int) (Q' : List Nat), j ≤ (psI g a h).length ∧ jj = .int .i64 (j : Int) ∧ i < Q'.length ∧ Q'[i]? = some h ∧ BfsI N (1 + N) f D' (Q'.drop (i + 1)) ∧ D'.getD h 0 = dd ∧
            relax (dd + 1) ((nextI g a h).drop j) D' (Q'.drop (i + 1)) = relax (dd + 1) (nextI g a h) D (Q.drop (i + 1)) ∧ wr.ownsRow W0.heap.size 3 1 (.slice (some ⟨gD, 0, none⟩) N cD) N (D'.flatMap cI) ∧ wr.ownsRow wo.heap.size 3 1 qv Q'.length (Q'.flatMap cN) ∧
            Only gD (gD + 1) wo wr ∧ SlI w5.heap.size wT.heap.size wr cPS 4 (.slice A7 (psI g a h).length c7) (psI g a h) ∧ (∀ b, qv.ownBlock = some b → b < w5.heap.size ∨ wT.heap.size ≤ b) ∧ wT.heap.size ≤ wr.heap.size) (fun _ jj _ => (psI g a h).length - (intOf jj).toNat)
          case atStart => exact ⟨0, D, Q, Nat.zero_le _, rfl, hlt, HQI.out, HPOP.out, HDD.out.symm, by rw [List.drop_zero], HROWT.out, HQT.out, HONT.out, HSL.out, fun b hb => .inl (HQ.out.lt b hb).2, Nat.le_refl _⟩
          case round =>
            clear HROWT HQT HONT HSL HPOP
            obtain ⟨j, D', Q', hj, rfl, hiQ, hqi', hI2, hDh, hrx, hrow, hq, hon, hsl, hqb, hsz3⟩ := hrel
            have HQI' := Lib.hid hqi'
            have HI2 := Lib.hid hI2
            have HDH := Lib.hid hDh
            have HRX := Lib.hid hrx
            have HROW' := Lib.hid hrow
            have HQ' := Lib.hid hq
            have HSL := Lib.hid hsl
            have HQB := Lib.hid hqb
            have HON := Lib.hid hon
            clear hqi' hI2 hDh hrx hrow hq hsl hqb hon
            by_cases hlj : j < (psI g a h).length
            · have hpk : (psI g a h)[j]? = some (psI g a h)[j] := List.getElem?_eq_getElem hlj
              have hpr := prodSteps_range (grOk_iff.1 HGO.out) HAO.out (List.getElem_mem hlj)
              generalize (psI g a h)[j] = p at hpk hpr
              have hnk : (nextI g a h)[j]? = some (psV a.accept.length p) := by rw [psI_next, List.getElem?_map, hpk]; rfl
              have hvN := HNN.out h _ hhN (List.mem_of_getElem? hnk)
              obtain ⟨b7, o7, rfl, hb70, hb71, r2, r3⟩ := HSL.out.ps hpk
              obtain ⟨pst, z, q⟩ := p
              simp only at r2 r3 hpr
              obtain ⟨⟨hz0, hz1⟩, hq0, hq1⟩ := hpr
              obtain ⟨z, rfl⟩ := Int.eq_ofNat_of_zero_le hz0
              obtain ⟨q, rfl⟩ := Int.eq_ofNat_of_zero_le hq0
              obtain ⟨vv, hvv⟩ : ∃ vv, vv = psV a.accept.length (pst, (z : Int), (q : Int)) := ⟨_, rfl⟩
              have hvv2 : vv = z * a.accept.length + q := by rw [hvv]; simp [psV]
              rw [← hvv] at hnk hvN
              have hdrj : (nextI g a h).drop j = vv :: (nextI g a h).drop (j + 1) := by
                obtain ⟨hjl, hjv⟩ := List.getElem?_eq_some_iff.1 hnk
                rw [List.drop_eq_getElem_cons hjl, hjv]
              obtain ⟨zn, hzn⟩ : ∃ zn, zn = z * a.accept.length := ⟨_, rfl⟩
              rw [← hzn] at hvv2
              have m1' : (z : Int) * (a.accept.length : Int) = (zn : Int) := by rw [hzn, Int.natCast_mul]
              have m2' : (zn : Int) + (q : Int) = (vv : Int) := by omega
              have m1 : IntKind.i64.wrap ((z : Int) * (a.accept.length : Int)) = (zn : Int) := by rw [m1']; exact IntWalk.i64_in _ (by omega)
              have m2 : IntKind.i64.wrap ((zn : Int) + (q : Int)) = (vv : Int) := by rw [m2']; exact IntWalk.i64_in _ (by omega)
              have HDJ := Lib.hid hdrj
              have hjj : (j : Int) < ((psI g a h).length : Int) := by omega
              have hvi : (vv : Int) < (N : Int) := by omega
              have hb7w : b7 < wr.heap.size := by omega
              clear hvv hvv2 hzn hnk hpk hdrj
              go_wp2_with fail
              refine wp_region_ext_lit (by kernel_rfl) (by kernel_rfl) ?_
              repeat (go_big_quiet_step (fail))
              refine wpQuiet_nil ?_
              intro _ hw'
              obtain ⟨u2, hw''⟩ := hw'
              subst hw''
              have hbu := ext_below wr u2
              have hsu := hbu.size
              have hrow3 := ownsRow_below HROW'.out hbu (Nat.le_refl _)
              have hq3 := ownsRow_below HQ'.out hbu (Nat.le_refl _)
              have hon3 := HON.out.trans (Only.of_below hbu gD (gD + 1))
              have hsl3 := HSL.out.below hbu (by omega)
              clear m1 m1' m2 m2' r2 r3
              generalize ext wr u2 = wx at *
              have hlD : D'.length = N := HI2.out.len
              have hvl : vv < D'.length := by omega
              have hvc := (World.ownsRow.cellAt hrow3 vv (by omega)).trans (flatI_at (getD_of hvl))
              have hvf := World.ownsRow.frozenAt hrow3 vv
              have HQ3 := Lib.hid hq3
              have HON3 := Lib.hid hon3
              have HSL3 := Lib.hid hsl3
              have HROW3 := Lib.hid hrow3
              have hQl : Q'.length ≤ 61 := by
                have h1 := HI2.out.fuel
                rw [List.length_drop] at h1
                omega
              clear hrow3 hq3 hon3 hsl3
              by_cases hneg : D'.getD vv 0 < 0
              · have hhl : h < D'.length := by omega
                have hhc := (World.ownsRow.cellAt HROW3.out h (by omega)).trans (flatI_at (getD_of hhl))
                rw [HDH.out] at hhc
                obtain ⟨gQ', cQ', rfl, hgQ', hgQw', -, -⟩ := own_some HQ3.out (by omega)
                have hqc' := (World.ownsRow.cellAt HQ3.out i (by omega)).trans (flatN_atR HQI'.out)
                have hnew := HI2.out.new hvN hneg (d := dd + 1) (by omega) (by omega)
                have hrow4 := (World.ownsRow.stored HROW3.out vv (.int .i64 (dd + 1))).1
                rw [flatI_set] at hrow4
                have hq4 := ownsRow_far HQ3.out (p := ⟨gD, vv, none⟩) (show gD < wo.heap.size from hgDo) (.int .i64 (dd + 1))
                have hon4 := HON3.out.setCell (p := ⟨gD, vv, none⟩) (.inl ⟨Nat.le_refl _, Nat.lt_succ_self _⟩) (.int .i64 (dd + 1))
                have hsl4 := HSL3.out.only ((Only.refl gD (gD + 1) wx).setCell (p := ⟨gD, vv, none⟩) (.inl ⟨Nat.le_refl _, Nat.lt_succ_self _⟩) (.int .i64 (dd + 1))) (by omega) (.inr (by omega))
                have hrx2 : relax (dd + 1) ((nextI g a h).drop (j + 1)) (D'.set vv (dd + 1)) (Q'.drop (i + 1) ++ [vv]) = relax (dd + 1) (nextI g a h) D (Q.drop (i + 1)) := by rw [← HRX.out, HDJ.out, relax_mid _ _ _ _ _ hneg]
                have hDh2 : (D'.set vv (dd + 1)).getD h 0 = dd := by
                  rw [getD_set' hvl, if_neg (by intro e; subst e; rw [HDH.out] at hneg; omega)]; exact HDH.out
                have hdrp : (Q' ++ [vv]).drop (i + 1) = Q'.drop (i + 1) ++ [vv] := List.drop_append_of_le_length (by omega)
                rw [← hdrp] at hnew hrx2
                have HNEW := Lib.hid hnew
                have HR4 := Lib.hid hrow4
                have HQ4 := Lib.hid hq4
                have HON4 := Lib.hid hon4
                have HSL4 := Lib.hid hsl4
                have HRX2 := Lib.hid hrx2
                have HDH2 := Lib.hid hDh2
                have hsx : (wx.setCell ⟨gD, vv, none⟩ (.int .i64 (dd + 1))).heap.size = wx.heap.size := by simp
                generalize D'.getD vv 0 = xv at hvc hneg
                have hii2 : (i : Int) < (Q'.length : Int) := by omega
                have hhi : (h : Int) < (N : Int) := by omega
                clear hnew hrow4 hq4 hon4 hsl4 hrx2 hDh2 hdrp
                go_wp2_with (at_builtin; (refine wpList_append1 cN elInt rfl _ _ rfl wo.heap.size _ Q' vv _ 1 _ (by rfl) HQ4.out (by rfl) (by simp) rfl rfl (cN_one _) (by omega) (by omega) (by simp; omega) ?_); intro v' w4 hrow' hb4 hat4 hgr4)
                go_roundw
                case rel =>
                  have hs4 := hgr4.size
                  have hs5 : ((wx.setCell ⟨gD, vv, none⟩ (.int .i64 (dd + 1))).alloc (.cells #[.int .i64 (vv : Int)] 3)).heap.size = wx.heap.size + 1 := by simp
                  rw [hs5] at hs4
                  refine ⟨j + 1, _, Q' ++ [vv], by omega, by go_num, by simp; omega, by rw [List.getElem?_append_left hiQ]; exact HQI'.out, HNEW.out, HDH2.out, HRX2.out, ownsRow_below' HR4.out hb4 hgDo, hrow', (HON4.out.alloc _).grown hgr4 (fun b hb => .inr (by cases hb; exact hgQ')), (HSL4.out.below ((Below.refl _ _).alloc (Nat.le_refl _) _) (by rw [hsx]; omega)).grown hgr4 (by rw [hs5]; omega) (fun b hb => HQB.out b hb), fun b hb => ?_, by omega⟩
                  rcases hat4 with h1 | ⟨g1, h1, h2⟩
                  · exact HQB.out b (by rw [← h1]; exact hb)
                  · rw [h1] at hb
                    injection hb with hb
                    rw [hsx] at h2
                    exact .inr (by omega)
                case measure => simp [intOf]; omega
              · have hrx2 : relax (dd + 1) ((nextI g a h).drop (j + 1)) D' (Q'.drop (i + 1)) = relax (dd + 1) (nextI g a h) D (Q.drop (i + 1)) := by rw [← HRX.out, HDJ.out, relax_old _ _ _ _ _ hneg]
                have HRX2 := Lib.hid hrx2
                generalize D'.getD vv 0 = xv at hvc hneg
                clear hrx2
                go_wp2_with fail
                go_roundw
                case rel => exact ⟨j + 1, D', Q', by omega, by go_num, hiQ, HQI'.out, HI2.out, HDH.out, HRX2.out, HROW3.out, HQ3.out, HON3.out, HSL3.out, HQB.out, by omega⟩
                case measure => simp [intOf]; omega
            · obtain rfl : j = (psI g a h).length := by omega
              have hrx2 := HRX.out
              rw [← HNL.out, List.drop_length, relax] at hrx2
              have hBF : bfs (nextI g a) f D' (Q'.drop (i + 1)) = R := by
                rw [← HB.out, bfs, ← HDD.out, ← hrx2]
              have HBF := Lib.hid hBF
              clear hrx2 hBF
              go_wp2_with fail
              go_roundg f
              case measure => exact Nat.lt_succ_self _
              case rel => exact ⟨i + 1, D', Q', by omega, by omega, by go_num, HI2.out, HBF.out, HROW'.out, HQ'.out, HON.out⟩
        · obtain rfl : i = Q.length := by omega
          rw [List.drop_length] at HB HI
          have hD : D = R := by rw [← HB.out, bfs_nil]
          have hown := Own.of_row (xs := D) (ownsRow_mono HROW.out hb1) HI.out.len rfl
          rw [hD] at hown
          have HO := Lib.hid hown
          obtain ⟨A9, c9, rfl, -, -, -⟩ := (Own.of_row (xs := Q) HQ.out rfl rfl).form cN_len
          clear hD hown
          go_wp2_with fail
          go_ret
          exact ⟨_, rfl, HO.out, HBWR.out⟩
end Go.Proofs.YtpbfdmfkmbdpkaaGreat
namespace Go.Proofs.YtpbfdmfkmbdpkaaGreat
set_option linter.unusedVariables false
set_option linter.unusedSimpArgs false
/-- vertex i is reached and accepts -/
def okV (g : Gr) (a : Au) (D : List Int) (i : Nat) : Bool := decide (0 ≤ D.getD i 0) && accC a (valAt g (i / a.accept.length)) (i % a.accept.length)
def ansM (g : Gr) (a : Au) (D : List Int) (k : Nat) : Nat := ((List.range k).filter (okV g a D)).foldl (fun m i => ins m (i / a.accept.length)) 0
def ansF (g : Gr) (a : Au) (D : List Int) (k : Nat) : List Int := ((List.range k).filter (okV g a D)).map fun (i : Nat) => ((i / a.accept.length : Nat) : Int)
theorem ansM_yes {g : Gr} {a : Au} {D : List Int} {k : Nat} (h : okV g a D k = true) : ansM g a D (k + 1) = ins (ansM g a D k) (k / a.accept.length) := by
  simp [ansM, List.range_succ, List.filter_append, h]
theorem ansM_no {g : Gr} {a : Au} {D : List Int} {k : Nat} (h : okV g a D k = false) : ansM g a D (k + 1) = ansM g a D k := by
  simp [ansM, List.range_succ, List.filter_append, h]
theorem ansF_yes {g : Gr} {a : Au} {D : List Int} {k : Nat} (h : okV g a D k = true) : ansF g a D (k + 1) = ansF g a D k ++ [((k / a.accept.length : Nat) : Int)] := by
  simp [ansF, List.range_succ, List.filter_append, h]
theorem ansF_no {g : Gr} {a : Au} {D : List Int} {k : Nat} (h : okV g a D k = false) : ansF g a D (k + 1) = ansF g a D k := by
  simp [ansF, List.range_succ, List.filter_append, h]
theorem ansF_len (g : Gr) (a : Au) (D : List Int) (k : Nat) : (ansF g a D k).length ≤ k := by
  unfold ansF
  rw [List.length_map]
  exact Nat.le_trans (List.length_filter_le _ _) (by simp)
theorem foldl_ins_nat (f : Nat → Nat) (l : List Nat) (m t : Nat) : (l.foldl (fun m i => ins m (f i)) m).testBit t = (m.testBit t || l.any (fun i => decide (f i = t))) := by
  induction l generalizing m with
  | nil => simp
  | cons x l ih => rw [List.foldl_cons, ih, ins_test, List.any_cons, Bool.or_assoc]
theorem ansM_test (g : Gr) (a : Au) (D : List Int) (k t : Nat) : (ansM g a D k).testBit t = true ↔ ∃ i, i < k ∧ okV g a D i = true ∧ i / a.accept.length = t := by
  unfold ansM
  rw [foldl_ins_nat]
  simp only [Nat.zero_testBit, Bool.false_or, List.any_eq_true, List.mem_filter, List.mem_range, decide_eq_true_eq]
  constructor
  · rintro ⟨i, ⟨h1, h2⟩, h3⟩; exact ⟨i, h1, h2, h3⟩
  · rintro ⟨i, h1, h2, h3⟩; exact ⟨i, ⟨h1, h2⟩, h3⟩
theorem ansM_lt {g : Gr} {a : Au} {D : List Int} {k n : Nat} (h : k ≤ n * a.accept.length) : ansM g a D k < 2 ^ n := by
  refine Nat.lt_pow_two_of_testBit _ fun t ht => ?_
  cases hb : (ansM g a D k).testBit t with
  | false => rfl
  | true =>
    obtain ⟨i, hi, _, rfl⟩ := (ansM_test ..).1 hb
    have : i / a.accept.length < n := Nat.div_lt_of_lt_mul (by rw [Nat.mul_comm]; omega)
    omega
/-- the answers from x, in ascending order -/
def ansL (g : Gr) (a : Au) (x : Int) : List Int :=
  if (wi x 0 ((g.vals.length : Int) - 1) && (grOk g && auOk a)) = true then memI 30 (ansM g a (distFrom g a x) (g.vals.length * a.accept.length)) else []
theorem ansL_asc {g : Gr} {a : Au} {x : Int} (h : (wi x 0 ((g.vals.length : Int) - 1) && (grOk g && auOk a)) = true) : ascL (ansF g a (distFrom g a x) (g.vals.length * a.accept.length)) = ansL g a x := by
  rw [ansL, if_pos h]
  refine asc_uniq (ascL_spec _).1 (memI_asc _ _) fun y => ?_
  rw [(ascL_spec _).2 y, mem_memI]
  simp only [Bool.and_eq_true] at h
  have hn5 := (grOk_iff.1 h.2.1).n5
  unfold ansF
  simp only [List.mem_map, List.mem_filter, List.mem_range]
  constructor
  · rintro ⟨i, ⟨hi, ho⟩, rfl⟩
    have : i / a.accept.length < g.vals.length := Nat.div_lt_of_lt_mul (by rw [Nat.mul_comm]; exact hi)
    exact ⟨i / a.accept.length, rfl, Nat.lt_of_lt_of_le this (by omega), (ansM_test ..).2 ⟨i, hi, ho, rfl⟩⟩
  · rintro ⟨t, rfl, _, ht⟩
    obtain ⟨i, hi, ho, rfl⟩ := (ansM_test ..).1 ht
    exact ⟨i, ⟨hi, ho⟩, rfl⟩
theorem ansL_len (g : Gr) (a : Au) (x : Int) : (ansL g a x).length ≤ 30 := by
  unfold ansL
  split
  · unfold memI; rw [List.length_map]; exact mem_len _ _
  · simp
section
open Go.ChangeShapes Go.WideShapes Go.ChangeAt Go.RowKit
theorem SlI.intI {lo hi : Nat} {w : World} {A : Option Addr} {n c : Nat} {xs : List Int} (h : SlI lo hi w cI 1 (.slice A n c) xs) {i : Nat} {x : Int} (hx : xs[i]? = some x) :
    ∃ b o, A = some ⟨b, o, none⟩ ∧ lo ≤ b ∧ b < hi ∧ w.cell? ⟨b, o + i, none⟩ = some (.int .i64 x) := by
  obtain ⟨A', c', hv, _, _, h3⟩ := h
  injection hv with h1 _ _
  subst h1
  obtain ⟨b, o, e, g1, g2, hc⟩ := h3 i x hx
  exact ⟨b, o, e, g1, g2, by simpa using hc 0 _ rfl⟩
end
end Go.Proofs.YtpbfdmfkmbdpkaaGreat
