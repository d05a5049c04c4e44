/- Parts of the proof, joined into one text: RankS, AnsM, AnsS, AutI, SetI. -/
import Derived.Test.YtpbfdmfkmbdpkaaGreatPartIDKOGLLL
import Derived.Test.YtpbfdmfkmbdpkaaGreatPartAIPHIKGG
import Derived.Deep.LoopGhost
import Derived.Lib.Slices
import Derived.Test.YtpbfdmfkmbdpkaaGreatPartCPHKMOBB
import Derived.Test.YtpbfdmfkmbdpkaaGreatPartEPECPLEK
import Derived.Test.YtpbfdmfkmbdpkaaGreatPartBPNIFNNL
/- The reference's l14Ranks: the distances from a node, breadth first. -/
namespace Go.Proofs.YtpbfdmfkmbdpkaaGreat
set_option linter.unusedVariables false
set_option linter.unusedSimpArgs false
open Go.ChangeShapes Go.WideShapes Go.ChangeAt Go.RowKit
attribute [local go_sem] ext_cell ext_frozen ext_lt ext_lt1 ext_lt2 ext_lt3 ltn2 ltn3 ltn13 lts1 lts2 lts3

def distFrom (g : Gr) (a : Au) (x : Int) : List Int :=
  if (wi x 0 ((g.vals.length : Int) - 1) && (grOk g && auOk a)) = true then spreadR (g.vals.length * a.accept.length) (nextI g a) [x.toNat * a.accept.length + a.start.toNat] else []
theorem distFrom_len {g : Gr} {a : Au} {x : Int} (h : (wi x 0 ((g.vals.length : Int) - 1) && (grOk g && auOk a)) = true) : (distFrom g a x).length = g.vals.length * a.accept.length := by rw [distFrom, if_pos h, spreadR_len]
theorem flatN_atR {xs : List Nat} {t : Nat} {x : Nat} (h : xs[t]? = some x) : (xs.flatMap cN)[t]? = some (.int .i64 (x : Int)) := by
  have := flat_at cN_len h 0 _ rfl
  simpa using this
theorem SlI.grown {α : Type} {lo hi : Nat} {w w' : World} {E : α → List Value} {k : Nat} {v : Value} {xs : List α} (h : SlI lo hi w E k v xs) {row : Option Nat} (hg : w.grownBy w' row) (hh : hi ≤ w.heap.size) (hn : ∀ b, row = some b → b < lo ∨ hi ≤ b) : SlI lo hi w' E k v xs :=
  h.keep_ fun b o h1 h2 => World.cell?_of_block (w := w) (hg.block b (by omega) (fun e => by have := hn b e.symm; omega))
theorem ownsRow_far {w : World} {base k n : Nat} {e : TypeId} {v : Value} {cs : List Value} (h : w.ownsRow base e k v n cs) {p : Addr} (hp : p.block < base) (u : Value) : (w.setCell p u).ownsRow base e k v n cs :=
  ownsRow_block h fun g hg => Below.heap_setCell _ _ _ _ (by have := (h.lt g hg).1; omega)
set_option maxHeartbeats 8000000 in
set_option maxRecDepth 100000 in
theorem l14Ranks_any (vg va : Value) (g : Gr) (a : Au) (x : Nat) (w : World) (hgv : GrV 0 w.heap.size w vg g) (hav : AuV 0 w.heap.size w va a) (hgo : grOk g = true) (ha : auOk a = true) (hx : x < g.vals.length) :
    Calls Tryz.prog 82 #[vg, va, .int .i64 (x : Int)] w fun e w' => ∃ v', e = .returned v' ∧ Own w.heap.size w'.heap.size w' 3 cI 1 v' (distFrom g a (x : Int)) ∧ Below w.heap.size w w' := by
  have hg := grOk_iff.1 hgo
  have hav0 := hav
  have hgv0 := hgv
  obtain ⟨A1, c1, A2, c2, rfl, hl1, hm1, hl2, hm2, -, -⟩ := hgv.form
  obtain ⟨A3, c3, A4, c4, rfl, hl3, hm3, hl4, hm4, -⟩ := hav.form ha
  have hn5 := hg.n5
  have hgn1 := hg.n1
  obtain ⟨⟨hn1, hn12⟩, ⟨hst0, hst1⟩, -, -⟩ := auOk_iff.1 ha
  obtain ⟨N, hN⟩ : ∃ N, N = g.vals.length * a.accept.length := ⟨_, rfl⟩
  have hN60 : N ≤ 60 := by rw [hN]; exact Nat.mul_le_mul hn5 hn12
  obtain ⟨s, hs⟩ : ∃ s : Nat, a.start = (s : Int) := ⟨a.start.toNat, by omega⟩
  obtain ⟨xn, hxn⟩ : ∃ xn, xn = x * a.accept.length := ⟨_, rfl⟩
  have hxn2 : xn + a.accept.length ≤ N := by rw [hxn, hN]; have := Nat.mul_le_mul_right a.accept.length (show x + 1 ≤ g.vals.length by omega); rw [Nat.succ_mul] at this; exact this
  obtain ⟨S0, hS0⟩ : ∃ S0, S0 = xn + s := ⟨_, rfl⟩
  have hS0N : S0 < N := by omega
  have m0' : (g.vals.length : Int) * (a.accept.length : Int) = (N : Int) := by rw [hN, Int.natCast_mul]
  have m0 : IntKind.i64.wrap ((g.vals.length : Int) * (a.accept.length : Int)) = (N : Int) := by rw [m0']; exact IntWalk.i64_in _ (by omega)
  have m1' : (x : Int) * (a.accept.length : Int) = (xn : Int) := by rw [hxn, Int.natCast_mul]
  have m1 : IntKind.i64.wrap ((x : Int) * (a.accept.length : Int)) = (xn : Int) := by rw [m1']; exact IntWalk.i64_in _ (by omega)
  have m2' : (xn : Int) + (s : Int) = (S0 : Int) := by omega
  have m2 : IntKind.i64.wrap ((xn : Int) + (s : Int)) = (S0 : Int) := by rw [m2']; exact IntWalk.i64_in _ (by omega)
  obtain ⟨R, hR⟩ : ∃ R, R = distFrom g a (x : Int) := ⟨_, rfl⟩
  have hR2 : R = bfs (nextI g a) (1 + N) (srcD N [S0]) [S0] := by
    rw [hR, distFrom, if_pos (by simp only [Bool.and_eq_true, wi_iff]; exact ⟨by omega, hgo, ha⟩), Int.toNat_natCast, ← hxn, ← hN, hs, Int.toNat_natCast, ← hS0]; rfl
  rw [← hR]
  have hnN : ∀ i k, i < N → k ∈ nextI g a i → k < N := fun i k _ hk => by rw [hN]; exact nextV_lt hg ha hk
  have hini := srcD_bfsI (N := N) (fs := [S0]) (by intro i hi; rw [List.mem_singleton] at hi; omega)
  have hsrc : srcD N [S0] = (List.replicate N (-1)).set S0 0 := rfl
  have HGO := Lib.hid hgo
  have HAO := Lib.hid ha
  have HAV := Lib.hid hav0
  have HGV := Lib.hid hgv0
  have HR := Lib.hid hR2
  have HN := Lib.hid hN
  have HNN := Lib.hid hnN
  have HINI := Lib.hid hini
  have HSRC := Lib.hid hsrc
  rw [hs] at HAV ⊢
  have hb0 : Below w.heap.size w ((w.alloc (.cells #[.slice A1 g.vals.length c1, .slice A2 g.edges.length c2] 36)).alloc (.cells #[.int .i64 (s : Int), .slice A3 a.accept.length c3, .slice A4 a.accept.length c4] 38)) := ((Below.refl _ _).alloc (Nat.le_refl _) _).alloc (by simp) _
  clear hgv hav ha hg hgo hav0 hgv0 hR hR2 hN hnN hini hsrc hxn hS0 hs hst0 hst1
  go_enter Tryz.func82, Tryz.ntmps82
  go_wp2_with fail
  obtain ⟨W0, hW0⟩ : ∃ W0, W0 = ((w.alloc (.cells #[.slice A1 g.vals.length c1, .slice A2 g.edges.length c2] 36)).alloc (.cells #[.int .i64 (s : Int), .slice A3 a.accept.length c3, .slice A4 a.accept.length c4] 38)) := ⟨_, rfl⟩
  rw [← hW0] at hb0 ⊢
  have x0 : W0.cell? ⟨w.heap.size, 0, none⟩ = some (.slice A1 g.vals.length c1) := by rw [hW0]; simp
  have x1 : W0.cell? ⟨w.heap.size, 1, none⟩ = some (.slice A2 g.edges.length c2) := by rw [hW0]; simp
  have y0 : W0.cell? ⟨w.heap.size + 1, 0, none⟩ = some (.int .i64 (s : Int)) := by rw [hW0]; simp
  have y1 : W0.cell? ⟨w.heap.size + 1, 1, none⟩ = some (.slice A3 a.accept.length c3) := by rw [hW0]; simp
  have y2 : W0.cell? ⟨w.heap.size + 1, 2, none⟩ = some (.slice A4 a.accept.length c4) := by rw [hW0]; simp
  have hs0 : w.heap.size + 1 + 1 = W0.heap.size := by rw [hW0]; simp
  rw [hs0]
  have l0 : w.heap.size + 1 < W0.heap.size := by omega
  have l00 : w.heap.size < W0.heap.size := by omega
  clear hW0 hs0
  go_loopw [8, 9] (fun dd kk wr => ∃ k : Nat, k ≤ N ∧ kk = .int .i64 (k : Int) ∧ wr.ownsRow W0.heap.size 3 1 dd (List.replicate k (-1 : Int)).length ((List.replicate k (-1 : Int)).flatMap cI) ∧ Below W0.heap.size W0 wr) (fun _ kk _ => N - (intOf kk).toNat)
  case atStart => exact ⟨0, Nat.zero_le _, rfl, World.ownsRow_lit W0 #[] 0 (Nat.le_refl _) (by decide) rfl, (Below.refl _ _).alloc (Nat.le_refl _) _⟩
  case round =>
    obtain ⟨k, hk, rfl, hrow, hbel⟩ := hrel
    have HROW := Lib.hid hrow
    have x0 := kcell hbel x0
    have x1 := kcell hbel x1
    have y0 := kcell hbel y0
    have y1 := kcell hbel y1
    have y2 := kcell hbel y2
    have hsz := hbel.size
    have l0 := Nat.lt_of_lt_of_le l0 hsz
    have l00 := Nat.lt_of_lt_of_le l00 hsz
    have hbw := below_trans hb0 hbel
    have HBW := Lib.hid hbw
    clear hrow hbw
    by_cases hlt : k < N
    · have HSN := Lib.hid (show List.replicate (k + 1) (-1 : Int) = List.replicate k (-1) ++ [-1] from List.replicate_succ')
      have hil : (List.replicate k (-1 : Int)).length ≤ 60 := by rw [List.length_replicate]; omega
      have hki : (k : Int) < (N : Int) := by omega
      generalize List.replicate k (-1 : Int) = D at *
      go_wp2_with (at_builtin; (refine wpList_append1 cI elInt rfl _ _ rfl W0.heap.size _ (D) (-1) _ 1 _ (by rfl) (HROW.out) (by rfl) rfl rfl rfl (cI_one _) (by omega) (by omega) (by omega) ?_); intro v' w4 hrow' hb4 _ _)
      go_roundw
      case rel => exact ⟨k + 1, by omega, by go_num, by rw [HSN.out]; exact hrow', hbel.trans hb4⟩
      case measure => simp [intOf]; omega
    · obtain rfl : k = N := by omega
      clear hlt hk
      obtain ⟨wo, rfl⟩ : ∃ wo : World, wo = wr := ⟨_, rfl⟩
      have hrow := HROW.out
      rw [List.length_replicate] at hrow
      obtain ⟨gD, cD, rfl, hgD, hgDo, -, -⟩ := own_some hrow (by omega)
      have hDc := World.ownsRow.cellAt hrow S0 (by omega)
      rw [flatI_at (x := -1) (by rw [List.getElem?_replicate, if_pos hS0N])] at hDc
      have hDf := World.ownsRow.frozenAt hrow S0
      have hrow2 := (World.ownsRow.stored hrow S0 (.int .i64 0)).1
      rw [flatI_set, ← HSRC.out] at hrow2
      have HR2 := Lib.hid hrow2
      have hS0i : (S0 : Int) < (k : Int) := by omega
      clear hrow hrow2 HROW HSRC
      go_wp2_with fail
      obtain ⟨N, hNk⟩ : ∃ N, N = k := ⟨_, rfl⟩
      subst hNk
      have hwo := HBW.out.size
      have hb1 := hb0.size
      clear hDc hDf m0 m0' m1 m1' m2 m2'
      go_loopg [10, 11] (1 + N) (fun f qv ii wr => ∃ (i : Nat) (D : List Int) (Q : List Nat), i ≤ Q.length ∧ i + f = 1 + N ∧ ii = .int .i64 (i : Int) ∧ BfsI N (1 + N) f D (Q.drop i) ∧ bfs (nextI g a) f D (Q.drop i) = R ∧ wr.ownsRow W0.heap.size 3 1 (.slice (some ⟨gD, 0, none⟩) N cD) N (D.flatMap cI) ∧
        wr.ownsRow wo.heap.size 3 1 qv Q.length (Q.flatMap cN) ∧ Only gD (gD + 1) wo wr)
      case atStart => exact ⟨0, srcD N [S0], [S0], Nat.zero_le _, by omega, rfl, HINI.out, HR.out.symm, HR2.out.alloc _, by (have h := World.ownsRow_lit (base := wo.heap.size) (e := 3) (size := 1) (wo.setCell ⟨gD, S0, none⟩ (.int .i64 0)) #[.int .i64 (S0 : Int)] 1 (by simp) (by decide) rfl); rw [World.size_setCell] at h; exact h, ((Only.refl gD (gD + 1) wo).setCell (p := ⟨gD, S0, none⟩) (.inl ⟨Nat.le_refl _, Nat.lt_succ_self _⟩) _).alloc _⟩
      case round =>
        clear HR2 HINI hbel
        obtain ⟨i, D, Q, hi, hif, rfl, hI, hB, hrow, hq, hon⟩ := hrel
        have HI := Lib.hid hI
        have HB := Lib.hid hB
        have HROW := Lib.hid hrow
        have HQ := Lib.hid hq
        have x0 := ocell hon x0 l00 (.inl (by omega))
        have x1 := ocell hon x1 l00 (.inl (by omega))
        have y0 := ocell hon y0 l0 (.inl (by omega))
        have y1 := ocell hon y1 l0 (.inl (by omega))
        have y2 := ocell hon y2 l0 (.inl (by omega))
        have hbw := HBW.out.trans (hon.below (by omega) hwo)
        have HBWR := Lib.hid hbw
        have hsz2 := hon.size
        clear hI hB hrow hq hbw
        by_cases hlt : i < Q.length
        · have hdr : Q.drop i = Q[i] :: Q.drop (i + 1) := List.drop_eq_getElem_cons hlt
          have hqi : Q[i]? = some Q[i] := List.getElem?_eq_getElem hlt
          generalize Q[i] = h at hdr hqi
          rw [hdr] at HI HB
          obtain ⟨f, rfl⟩ : ∃ f, gk = f + 1 := ⟨gk - 1, by have := HI.out.fuel; rw [List.length_cons] at this; omega⟩
          obtain ⟨hhN, hh0⟩ := HI.out.queue h (by simp)
          have hql : Q.length ≤ 61 := by
            have h1 := HI.out.fuel
            rw [← hdr, List.length_drop] at h1
            omega
          obtain ⟨gQ, cQ, rfl, hgQ, hgQw, -, -⟩ := own_some HQ.out (by omega)
          have hqc := (World.ownsRow.cellAt HQ.out i (by omega)).trans (flatN_atR hqi)
          have qc := hqc
          have hgp : g.vals.length * a.accept.length = N := HN.out.symm
          obtain ⟨X, hX⟩ : ∃ X, X = h / a.accept.length := ⟨_, rfl⟩
          obtain ⟨S, hS⟩ : ∃ S, S = h % a.accept.length := ⟨_, rfl⟩
          have hXl : X < g.vals.length := by rw [hX]; exact Nat.div_lt_of_lt_mul (by rw [Nat.mul_comm, hgp]; exact hhN)
          have hSl : S < a.accept.length := by rw [hS]; exact Nat.mod_lt _ hn1
          have t1 : (h : Int).tdiv (a.accept.length : Int) = (X : Int) := by rw [hX]; rfl
          have t2 : (h : Int).tmod (a.accept.length : Int) = (S : Int) := by rw [hS]; rfl
          have hn0 : ((a.accept.length : Int) == 0) = false := by simp only [beq_eq_false_iff_ne, ne_eq]; omega
          have hae : a.accept ≠ [] := by intro h; rw [h] at hn1; simp at hn1
          have HPX := Lib.hid (show prodSteps g a X S = psI g a h by rw [hX, hS]; rfl)
          have q1 : IntKind.i64.wrap (X : Int) = (X : Int) := IntWalk.i64_in _ (by omega)
          have q2 : IntKind.i64.wrap (S : Int) = (S : Int) := IntWalk.i64_in _ (by omega)
          have hii : (i : Int) < (Q.length : Int) := by omega
          have HQI := Lib.hid hqi
          have HDR := Lib.hid hdr
          clear hX hS hgp hdr hqi
          go_wp2_with fail
          refine F_start 15 (fun w' => w'.cell? ⟨w.heap.size, 0, none⟩ = some (.slice A1 g.vals.length c1) ∧ w'.cell? ⟨w.heap.size, 1, none⟩ = some (.slice A2 g.edges.length c2) ∧ w'.cell? ⟨w.heap.size + 1, 0, none⟩ = some (.int .i64 (s : Int)) ∧ w'.cell? ⟨w.heap.size + 1, 1, none⟩ = some (.slice A3 a.accept.length c3) ∧ w'.cell? ⟨w.heap.size + 1, 2, none⟩ = some (.slice A4 a.accept.length c4) ∧ w'.cell? ⟨gQ, i, none⟩ = some (.int .i64 (h : Int))) (by kernel_rfl) (by exact ⟨x0, x1, y0, y1, y2, qc⟩) (fun hS inv => ?_)
          refine F_take (i := 0) (v := ?_) rfl (by kernel_rfl) (by kernel_rfl) (by kernel_rfl) (fun _ _ _ h => h) inv (Or.inl ⟨by rfl, ?_⟩) (by assumption) (fun invn => ?_)
          rotate_left
          · (intro w hSw; (try dsimp only at hSw); go_simp; try with_reducible rfl)
          try simp only [List.getElem_toArray, List.getElem_cons_zero, List.getElem_cons_succ, Act.put, List.setIfInBounds_toArray, List.set_cons_zero, List.set_cons_succ]
          clear inv
          have inv := invn
          clear invn
          refine F_take (i := 1) (v := ?_) rfl (by kernel_rfl) (by kernel_rfl) (by kernel_rfl) (fun _ _ _ h => h) inv (Or.inl ⟨by rfl, ?_⟩) (by assumption) (fun invn => ?_)
          rotate_left
          · (intro w hSw; (try dsimp only at hSw); go_simp; try with_reducible rfl)
          try simp only [List.getElem_toArray, List.getElem_cons_zero, List.getElem_cons_succ, Act.put, List.setIfInBounds_toArray, List.set_cons_zero, List.set_cons_succ]
          clear inv
          have inv := invn
          clear invn
          refine F_take (i := 2) (v := ?_) rfl (by kernel_rfl) (by kernel_rfl) (by kernel_rfl) (fun _ _ _ h => h) inv (Or.inl ⟨by rfl, ?_⟩) (by assumption) (fun invn => ?_)
          rotate_left
          · (intro w hSw; (try dsimp only at hSw); go_simp; try with_reducible rfl)
          try simp only [List.getElem_toArray, List.getElem_cons_zero, List.getElem_cons_succ, Act.put, List.setIfInBounds_toArray, List.set_cons_zero, List.set_cons_succ]
          clear inv
          have inv := invn
          clear invn
          refine F_take (i := 3) (v := ?_) rfl (by kernel_rfl) (by kernel_rfl) (by kernel_rfl) (fun _ _ _ h => h) inv (Or.inl ⟨by rfl, ?_⟩) (by assumption) (fun invn => ?_)
          rotate_left
          · (intro w hSw; (try dsimp only at hSw); go_simp; try with_reducible rfl)
          try simp only [List.getElem_toArray, List.getElem_cons_zero, List.getElem_cons_succ, Act.put, List.setIfInBounds_toArray, List.set_cons_zero, List.set_cons_succ]
          clear inv
          have inv := invn
          clear invn
          refine F_take (i := 4) (v := ?_) rfl (by kernel_rfl) (by kernel_rfl) (by kernel_rfl) (fun _ _ _ h => h) inv (Or.inl ⟨by rfl, ?_⟩) (by assumption) (fun invn => ?_)
          rotate_left
          · (intro w hSw; (try dsimp only at hSw); go_simp; try with_reducible rfl)
          try simp only [List.getElem_toArray, List.getElem_cons_zero, List.getElem_cons_succ, Act.put, List.setIfInBounds_toArray, List.set_cons_zero, List.set_cons_succ]
          clear inv
          have inv := invn
          clear invn
          refine F_take (i := 5) (v := ?_) rfl (by kernel_rfl) (by kernel_rfl) (by kernel_rfl) (fun _ _ _ h => h) inv (Or.inl ⟨by rfl, ?_⟩) (by assumption) (fun invn => ?_)
          rotate_left
          · (intro w hSw; (try dsimp only at hSw); go_simp; try with_reducible rfl)
          try simp only [List.getElem_toArray, List.getElem_cons_zero, List.getElem_cons_succ, Act.put, List.setIfInBounds_toArray, List.set_cons_zero, List.set_cons_succ]
          clear inv
          have inv := invn
          clear invn
          refine F_take (i := 6) (v := ?_) rfl (by kernel_rfl) (by kernel_rfl) (by kernel_rfl) (fun _ _ _ h => h) inv (Or.inl ⟨by rfl, ?_⟩) (by assumption) (fun invn => ?_)
          rotate_left
          · (intro w hSw; (try dsimp only at hSw); go_simp; try with_reducible rfl)
          try simp only [List.getElem_toArray, List.getElem_cons_zero, List.getElem_cons_succ, Act.put, List.setIfInBounds_toArray, List.set_cons_zero, List.set_cons_succ]
          clear inv
          have inv := invn
          clear invn
          refine F_take (i := 7) (v := ?_) rfl (by kernel_rfl) (by kernel_rfl) (by kernel_rfl) (fun _ _ _ h => h) inv (Or.inl ⟨by rfl, ?_⟩) (by assumption) (fun invn => ?_)
          rotate_left
          · (intro w hSw; (try dsimp only at hSw); go_simp; try with_reducible rfl)
          try simp only [List.getElem_toArray, List.getElem_cons_zero, List.getElem_cons_succ, Act.put, List.setIfInBounds_toArray, List.set_cons_zero, List.set_cons_succ]
          clear inv
          have inv := invn
          clear invn
          refine F_take (i := 8) (v := ?_) rfl (by kernel_rfl) (by kernel_rfl) (by kernel_rfl) (fun _ _ _ h => h) inv (Or.inl ⟨by rfl, ?_⟩) (by assumption) (fun invn => ?_)
          rotate_left
          · (intro w hSw; (try dsimp only at hSw); go_simp; try with_reducible rfl)
          try simp only [List.getElem_toArray, List.getElem_cons_zero, List.getElem_cons_succ, Act.put, List.setIfInBounds_toArray, List.set_cons_zero, List.set_cons_succ]
          clear inv
          have inv := invn
          clear invn
          refine F_take (i := 9) (v := ?_) rfl (by kernel_rfl) (by kernel_rfl) (by kernel_rfl) (fun _ _ _ h => h) inv (Or.inl ⟨by rfl, ?_⟩) (by assumption) (fun invn => ?_)
          rotate_left
          · (intro w hSw; (try dsimp only at hSw); go_simp; try with_reducible rfl)
          try simp only [List.getElem_toArray, List.getElem_cons_zero, List.getElem_cons_succ, Act.put, List.setIfInBounds_toArray, List.set_cons_zero, List.set_cons_succ]
          clear inv
          have inv := invn
          clear invn
          refine F_take (i := 10) (v := ?_) rfl (by kernel_rfl) (by kernel_rfl) (by kernel_rfl) (fun _ _ _ h => h) inv (Or.inl ⟨by rfl, ?_⟩) (by assumption) (fun invn => ?_)
          rotate_left
          · (intro w hSw; (try dsimp only at hSw); go_simp; try with_reducible rfl)
          try simp only [List.getElem_toArray, List.getElem_cons_zero, List.getElem_cons_succ, Act.put, List.setIfInBounds_toArray, List.set_cons_zero, List.set_cons_succ]
          clear inv
          have inv := invn
          clear invn
          refine F_take (i := 11) (v := ?_) rfl (by kernel_rfl) (by kernel_rfl) (by kernel_rfl) (fun _ _ _ h => h) inv (Or.inl ⟨by rfl, ?_⟩) (by assumption) (fun invn => ?_)
          rotate_left
          · (intro w hSw; (try dsimp only at hSw); go_simp; try with_reducible rfl)
          try simp only [List.getElem_toArray, List.getElem_cons_zero, List.getElem_cons_succ, Act.put, List.setIfInBounds_toArray, List.set_cons_zero, List.set_cons_succ]
          clear inv
          have inv := invn
          clear invn
          refine F_take (i := 12) (v := ?_) rfl (by kernel_rfl) (by kernel_rfl) (by kernel_rfl) (fun _ _ _ h => h) inv (Or.inl ⟨by rfl, ?_⟩) (by assumption) (fun invn => ?_)
          rotate_left
          · (intro w hSw; (try dsimp only at hSw); go_simp; try with_reducible rfl)
          try simp only [List.getElem_toArray, List.getElem_cons_zero, List.getElem_cons_succ, Act.put, List.setIfInBounds_toArray, List.set_cons_zero, List.set_cons_succ]
          clear inv
          have inv := invn
          clear invn
          refine F_take (i := 13) (v := ?_) rfl (by kernel_rfl) (by kernel_rfl) (by kernel_rfl) (fun _ _ _ h => h) inv (Or.inl ⟨by rfl, ?_⟩) (by assumption) (fun invn => ?_)
          rotate_left
          · (intro w hSw; (try dsimp only at hSw); go_simp; try with_reducible rfl)
          try simp only [List.getElem_toArray, List.getElem_cons_zero, List.getElem_cons_succ, Act.put, List.setIfInBounds_toArray, List.set_cons_zero, List.set_cons_succ]
          clear inv
          have inv := invn
          clear invn
          refine F_one (i := 14) (by kernel_rfl) rfl rfl (by omega) inv (fun K hK => ?_)
          try simp only [List.getElem_toArray, List.getElem_cons_zero, List.getElem_cons_succ]
          go_simp
          refine (l14Steps_any _ _ g a X S _ (HGV.out.keep (below_trans HBWR.out ((Below.refl wr.heap.size wr).drew))) (HAV.out.keep (below_trans HBWR.out ((Below.refl wr.heap.size wr).drew))) HGO.out HAO.out hXl hSl).mono ?_
          rintro e wT ⟨vT, rfl, hoT, hbT⟩
          refine hK.out _ _ (kB6 hbT hS) (fun hSn invn => ?_)
          try simp only [List.getElem_toArray, List.getElem_cons_zero, List.getElem_cons_succ, Act.put, List.setIfInBounds_toArray, List.set_cons_zero, List.set_cons_succ]
          clear hK K inv hS
          have inv := invn
          have hS := hSn
          clear invn hSn
          refine F_last (i := 15) (by kernel_rfl) rfl rfl (by omega) (by kernel_rfl) (fun K hK => ?_)
          go_simp
          refine hK _ _ ?_
          clear hK K inv hS
          have hbWT := below_trans ((Below.refl wr.heap.size wr).drew) hbT
          have hsT := hbWT.size
          have hrT := ownsRow_below HROW.out hbWT (Nat.le_refl _)
          have hqT := ownsRow_below HQ.out hbWT (Nat.le_refl _)
          have honT := hon.trans (Only.of_below hbWT gD (gD + 1))
          have hslT : SlI wr.heap.size wT.heap.size wT cPS 4 vT (psI g a h) := by have h := hoT.sl cPS_len; rw [HPX.out] at h; exact h
          have hlp : (psI g a h).length ≤ 288 := prodSteps_len (grOk_iff.1 HGO.out) a _ _
          have hnl : (nextI g a h).length = (psI g a h).length := by rw [psI_next, List.length_map]
          obtain ⟨A7, c7, rfl, hl7, hm7, -⟩ := SlE.form (hslT.mono (Nat.zero_le _) (Nat.le_refl _))
          obtain ⟨dd, hdd⟩ : ∃ dd, dd = D.getD h 0 := ⟨_, rfl⟩
          have htop := HI.out.top h
          rw [← hdd] at htop hh0
          have HDD := Lib.hid hdd
          have HPOP := Lib.hid HI.out.pop
          have HROWT := Lib.hid hrT
          have HQT := Lib.hid hqT
          have HONT := Lib.hid honT
          have HSL := Lib.hid hslT
          have HNL := Lib.hid hnl
          have HBR := Lib.hid (show relax (dd + 1) (nextI g a h) D (Q.drop (i + 1)) = relax (dd + 1) (nextI g a h) D (Q.drop (i + 1)) from rfl)
          obtain ⟨w5, rfl⟩ : ∃ w5 : World, w5 = wr := ⟨_, rfl⟩
          clear hrT hqT honT hslT hnl hdd hon q1 q2 t1 t2 hoT hqc qc
          go_wp2_with fail
          go_loopw [10, 13] (fun qv jj wr => ∃ (j : Nat) (D' : List Int) (Q' : List Nat), j ≤ (psI g a h).length ∧ jj = .int .i64 (j : Int) ∧ i < Q'.length ∧ Q'[i]? = some h ∧ BfsI N (1 + N) f D' (Q'.drop (i + 1)) ∧ D'.getD h 0 = dd ∧
            relax (dd + 1) ((nextI g a h).drop j) D' (Q'.drop (i + 1)) = relax (dd + 1) (nextI g a h) D (Q.drop (i + 1)) ∧ wr.ownsRow W0.heap.size 3 1 (.slice (some ⟨gD, 0, none⟩) N cD) N (D'.flatMap cI) ∧ wr.ownsRow wo.heap.size 3 1 qv Q'.length (Q'.flatMap cN) ∧
            Only gD (gD + 1) wo wr ∧ SlI w5.heap.size wT.heap.size wr cPS 4 (.slice A7 (psI g a h).length c7) (psI g a h) ∧ (∀ b, qv.ownBlock = some b → b < w5.heap.size ∨ wT.heap.size ≤ b) ∧ wT.heap.size ≤ wr.heap.size) (fun _ jj _ => (psI g a h).length - (intOf jj).toNat)
          case atStart => exact ⟨0, D, Q, Nat.zero_le _, rfl, hlt, HQI.out, HPOP.out, HDD.out.symm, by rw [List.drop_zero], HROWT.out, HQT.out, HONT.out, HSL.out, fun b hb => .inl (HQ.out.lt b hb).2, Nat.le_refl _⟩
          case round =>
            clear HROWT HQT HONT HSL HPOP
            obtain ⟨j, D', Q', hj, rfl, hiQ, hqi', hI2, hDh, hrx, hrow, hq, hon, hsl, hqb, hsz3⟩ := hrel
            have HQI' := Lib.hid hqi'
            have HI2 := Lib.hid hI2
            have HDH := Lib.hid hDh
            have HRX := Lib.hid hrx
            have HROW' := Lib.hid hrow
            have HQ' := Lib.hid hq
            have HSL := Lib.hid hsl
            have HQB := Lib.hid hqb
            have HON := Lib.hid hon
            clear hqi' hI2 hDh hrx hrow hq hsl hqb hon
            by_cases hlj : j < (psI g a h).length
            · have hpk : (psI g a h)[j]? = some (psI g a h)[j] := List.getElem?_eq_getElem hlj
              have hpr := prodSteps_range (grOk_iff.1 HGO.out) HAO.out (List.getElem_mem hlj)
              generalize (psI g a h)[j] = p at hpk hpr
              have hnk : (nextI g a h)[j]? = some (psV a.accept.length p) := by rw [psI_next, List.getElem?_map, hpk]; rfl
              have hvN := HNN.out h _ hhN (List.mem_of_getElem? hnk)
              obtain ⟨b7, o7, rfl, hb70, hb71, r2, r3⟩ := HSL.out.ps hpk
              obtain ⟨pst, z, q⟩ := p
              simp only at r2 r3 hpr
              obtain ⟨⟨hz0, hz1⟩, hq0, hq1⟩ := hpr
              obtain ⟨z, rfl⟩ := Int.eq_ofNat_of_zero_le hz0
              obtain ⟨q, rfl⟩ := Int.eq_ofNat_of_zero_le hq0
              obtain ⟨vv, hvv⟩ : ∃ vv, vv = psV a.accept.length (pst, (z : Int), (q : Int)) := ⟨_, rfl⟩
              have hvv2 : vv = z * a.accept.length + q := by rw [hvv]; simp [psV]
              rw [← hvv] at hnk hvN
              have hdrj : (nextI g a h).drop j = vv :: (nextI g a h).drop (j + 1) := by
                obtain ⟨hjl, hjv⟩ := List.getElem?_eq_some_iff.1 hnk
                rw [List.drop_eq_getElem_cons hjl, hjv]
              obtain ⟨zn, hzn⟩ : ∃ zn, zn = z * a.accept.length := ⟨_, rfl⟩
              rw [← hzn] at hvv2
              have m1' : (z : Int) * (a.accept.length : Int) = (zn : Int) := by rw [hzn, Int.natCast_mul]
              have m2' : (zn : Int) + (q : Int) = (vv : Int) := by omega
              have m1 : IntKind.i64.wrap ((z : Int) * (a.accept.length : Int)) = (zn : Int) := by rw [m1']; exact IntWalk.i64_in _ (by omega)
              have m2 : IntKind.i64.wrap ((zn : Int) + (q : Int)) = (vv : Int) := by rw [m2']; exact IntWalk.i64_in _ (by omega)
              have HDJ := Lib.hid hdrj
              have hjj : (j : Int) < ((psI g a h).length : Int) := by omega
              have hvi : (vv : Int) < (N : Int) := by omega
              have hb7w : b7 < wr.heap.size := by omega
              clear hvv hvv2 hzn hnk hpk hdrj
              go_wp2_with fail
              refine wp_region_ext_lit (by kernel_rfl) (by kernel_rfl) ?_
              repeat (go_big_quiet_step (fail))
              refine wpQuiet_nil ?_
              intro _ hw'
              obtain ⟨u2, hw''⟩ := hw'
              subst hw''
              have hbu := ext_below wr u2
              have hsu := hbu.size
              have hrow3 := ownsRow_below HROW'.out hbu (Nat.le_refl _)
              have hq3 := ownsRow_below HQ'.out hbu (Nat.le_refl _)
              have hon3 := HON.out.trans (Only.of_below hbu gD (gD + 1))
              have hsl3 := HSL.out.below hbu (by omega)
              clear m1 m1' m2 m2' r2 r3
              generalize ext wr u2 = wx at *
              have hlD : D'.length = N := HI2.out.len
              have hvl : vv < D'.length := by omega
              have hvc := (World.ownsRow.cellAt hrow3 vv (by omega)).trans (flatI_at (getD_of hvl))
              have hvf := World.ownsRow.frozenAt hrow3 vv
              have HQ3 := Lib.hid hq3
              have HON3 := Lib.hid hon3
              have HSL3 := Lib.hid hsl3
              have HROW3 := Lib.hid hrow3
              have hQl : Q'.length ≤ 61 := by
                have h1 := HI2.out.fuel
                rw [List.length_drop] at h1
                omega
              clear hrow3 hq3 hon3 hsl3
              by_cases hneg : D'.getD vv 0 < 0
              · have hhl : h < D'.length := by omega
                have hhc := (World.ownsRow.cellAt HROW3.out h (by omega)).trans (flatI_at (getD_of hhl))
                rw [HDH.out] at hhc
                obtain ⟨gQ', cQ', rfl, hgQ', hgQw', -, -⟩ := own_some HQ3.out (by omega)
                have hqc' := (World.ownsRow.cellAt HQ3.out i (by omega)).trans (flatN_atR HQI'.out)
                have hnew := HI2.out.new hvN hneg (d := dd + 1) (by omega) (by omega)
                have hrow4 := (World.ownsRow.stored HROW3.out vv (.int .i64 (dd + 1))).1
                rw [flatI_set] at hrow4
                have hq4 := ownsRow_far HQ3.out (p := ⟨gD, vv, none⟩) (show gD < wo.heap.size from hgDo) (.int .i64 (dd + 1))
                have hon4 := HON3.out.setCell (p := ⟨gD, vv, none⟩) (.inl ⟨Nat.le_refl _, Nat.lt_succ_self _⟩) (.int .i64 (dd + 1))
                have hsl4 := HSL3.out.only ((Only.refl gD (gD + 1) wx).setCell (p := ⟨gD, vv, none⟩) (.inl ⟨Nat.le_refl _, Nat.lt_succ_self _⟩) (.int .i64 (dd + 1))) (by omega) (.inr (by omega))
                have hrx2 : relax (dd + 1) ((nextI g a h).drop (j + 1)) (D'.set vv (dd + 1)) (Q'.drop (i + 1) ++ [vv]) = relax (dd + 1) (nextI g a h) D (Q.drop (i + 1)) := by rw [← HRX.out, HDJ.out, relax_mid _ _ _ _ _ hneg]
                have hDh2 : (D'.set vv (dd + 1)).getD h 0 = dd := by
                  rw [getD_set' hvl, if_neg (by intro e; subst e; rw [HDH.out] at hneg; omega)]; exact HDH.out
                have hdrp : (Q' ++ [vv]).drop (i + 1) = Q'.drop (i + 1) ++ [vv] := List.drop_append_of_le_length (by omega)
                rw [← hdrp] at hnew hrx2
                have HNEW := Lib.hid hnew
                have HR4 := Lib.hid hrow4
                have HQ4 := Lib.hid hq4
                have HON4 := Lib.hid hon4
                have HSL4 := Lib.hid hsl4
                have HRX2 := Lib.hid hrx2
                have HDH2 := Lib.hid hDh2
                have hsx : (wx.setCell ⟨gD, vv, none⟩ (.int .i64 (dd + 1))).heap.size = wx.heap.size := by simp
                generalize D'.getD vv 0 = xv at hvc hneg
                have hii2 : (i : Int) < (Q'.length : Int) := by omega
                have hhi : (h : Int) < (N : Int) := by omega
                clear hnew hrow4 hq4 hon4 hsl4 hrx2 hDh2 hdrp
                go_wp2_with (at_builtin; (refine wpList_append1 cN elInt rfl _ _ rfl wo.heap.size _ Q' vv _ 1 _ (by rfl) HQ4.out (by rfl) (by simp) rfl rfl (cN_one _) (by omega) (by omega) (by simp; omega) ?_); intro v' w4 hrow' hb4 hat4 hgr4)
                go_roundw
                case rel =>
                  have hs4 := hgr4.size
                  have hs5 : ((wx.setCell ⟨gD, vv, none⟩ (.int .i64 (dd + 1))).alloc (.cells #[.int .i64 (vv : Int)] 3)).heap.size = wx.heap.size + 1 := by simp
                  rw [hs5] at hs4
                  refine ⟨j + 1, _, Q' ++ [vv], by omega, by go_num, by simp; omega, by rw [List.getElem?_append_left hiQ]; exact HQI'.out, HNEW.out, HDH2.out, HRX2.out, ownsRow_below' HR4.out hb4 hgDo, hrow', (HON4.out.alloc _).grown hgr4 (fun b hb => .inr (by cases hb; exact hgQ')), (HSL4.out.below ((Below.refl _ _).alloc (Nat.le_refl _) _) (by rw [hsx]; omega)).grown hgr4 (by rw [hs5]; omega) (fun b hb => HQB.out b hb), fun b hb => ?_, by omega⟩
                  rcases hat4 with h1 | ⟨g1, h1, h2⟩
                  · exact HQB.out b (by rw [← h1]; exact hb)
                  · rw [h1] at hb
                    injection hb with hb
                    rw [hsx] at h2
                    exact .inr (by omega)
                case measure => simp [intOf]; omega
              · have hrx2 : relax (dd + 1) ((nextI g a h).drop (j + 1)) D' (Q'.drop (i + 1)) = relax (dd + 1) (nextI g a h) D (Q.drop (i + 1)) := by rw [← HRX.out, HDJ.out, relax_old _ _ _ _ _ hneg]
                have HRX2 := Lib.hid hrx2
                generalize D'.getD vv 0 = xv at hvc hneg
                clear hrx2
                go_wp2_with fail
                go_roundw
                case rel => exact ⟨j + 1, D', Q', by omega, by go_num, hiQ, HQI'.out, HI2.out, HDH.out, HRX2.out, HROW3.out, HQ3.out, HON3.out, HSL3.out, HQB.out, by omega⟩
                case measure => simp [intOf]; omega
            · obtain rfl : j = (psI g a h).length := by omega
              have hrx2 := HRX.out
              rw [← HNL.out, List.drop_length, relax] at hrx2
              have hBF : bfs (nextI g a) f D' (Q'.drop (i + 1)) = R := by
                rw [← HB.out, bfs, ← HDD.out, ← hrx2]
              have HBF := Lib.hid hBF
              clear hrx2 hBF
              go_wp2_with fail
              go_roundg f
              case measure => exact Nat.lt_succ_self _
              case rel => exact ⟨i + 1, D', Q', by omega, by omega, by go_num, HI2.out, HBF.out, HROW'.out, HQ'.out, HON.out⟩
        · obtain rfl : i = Q.length := by omega
          rw [List.drop_length] at HB HI
          have hD : D = R := by rw [← HB.out, bfs_nil]
          have hown := Own.of_row (xs := D) (ownsRow_mono HROW.out hb1) HI.out.len rfl
          rw [hD] at hown
          have HO := Lib.hid hown
          obtain ⟨A9, c9, rfl, -, -, -⟩ := (Own.of_row (xs := Q) HQ.out rfl rfl).form cN_len
          clear hD hown
          go_wp2_with fail
          go_ret
          exact ⟨_, rfl, HO.out, HBWR.out⟩
end Go.Proofs.YtpbfdmfkmbdpkaaGreat

/- Plain: the answers from a node. -/
namespace Go.Proofs.YtpbfdmfkmbdpkaaGreat
set_option linter.unusedVariables false
set_option linter.unusedSimpArgs false
/-- vertex i is reached and accepts -/
def okV (g : Gr) (a : Au) (D : List Int) (i : Nat) : Bool := decide (0 ≤ D.getD i 0) && accC a (valAt g (i / a.accept.length)) (i % a.accept.length)
def ansM (g : Gr) (a : Au) (D : List Int) (k : Nat) : Nat := ((List.range k).filter (okV g a D)).foldl (fun m i => ins m (i / a.accept.length)) 0
def ansF (g : Gr) (a : Au) (D : List Int) (k : Nat) : List Int := ((List.range k).filter (okV g a D)).map fun (i : Nat) => ((i / a.accept.length : Nat) : Int)
theorem ansM_yes {g : Gr} {a : Au} {D : List Int} {k : Nat} (h : okV g a D k = true) : ansM g a D (k + 1) = ins (ansM g a D k) (k / a.accept.length) := by
  simp [ansM, List.range_succ, List.filter_append, h]
theorem ansM_no {g : Gr} {a : Au} {D : List Int} {k : Nat} (h : okV g a D k = false) : ansM g a D (k + 1) = ansM g a D k := by
  simp [ansM, List.range_succ, List.filter_append, h]
theorem ansF_yes {g : Gr} {a : Au} {D : List Int} {k : Nat} (h : okV g a D k = true) : ansF g a D (k + 1) = ansF g a D k ++ [((k / a.accept.length : Nat) : Int)] := by
  simp [ansF, List.range_succ, List.filter_append, h]
theorem ansF_no {g : Gr} {a : Au} {D : List Int} {k : Nat} (h : okV g a D k = false) : ansF g a D (k + 1) = ansF g a D k := by
  simp [ansF, List.range_succ, List.filter_append, h]
theorem ansF_len (g : Gr) (a : Au) (D : List Int) (k : Nat) : (ansF g a D k).length ≤ k := by
  unfold ansF
  rw [List.length_map]
  exact Nat.le_trans (List.length_filter_le _ _) (by simp)
theorem foldl_ins_nat (f : Nat → Nat) (l : List Nat) (m t : Nat) : (l.foldl (fun m i => ins m (f i)) m).testBit t = (m.testBit t || l.any (fun i => decide (f i = t))) := by
  induction l generalizing m with
  | nil => simp
  | cons x l ih => rw [List.foldl_cons, ih, ins_test, List.any_cons, Bool.or_assoc]
theorem ansM_test (g : Gr) (a : Au) (D : List Int) (k t : Nat) : (ansM g a D k).testBit t = true ↔ ∃ i, i < k ∧ okV g a D i = true ∧ i / a.accept.length = t := by
  unfold ansM
  rw [foldl_ins_nat]
  simp only [Nat.zero_testBit, Bool.false_or, List.any_eq_true, List.mem_filter, List.mem_range, decide_eq_true_eq]
  constructor
  · rintro ⟨i, ⟨h1, h2⟩, h3⟩; exact ⟨i, h1, h2, h3⟩
  · rintro ⟨i, h1, h2, h3⟩; exact ⟨i, ⟨h1, h2⟩, h3⟩
theorem ansM_lt {g : Gr} {a : Au} {D : List Int} {k n : Nat} (h : k ≤ n * a.accept.length) : ansM g a D k < 2 ^ n := by
  refine Nat.lt_pow_two_of_testBit _ fun t ht => ?_
  cases hb : (ansM g a D k).testBit t with
  | false => rfl
  | true =>
    obtain ⟨i, hi, _, rfl⟩ := (ansM_test ..).1 hb
    have : i / a.accept.length < n := Nat.div_lt_of_lt_mul (by rw [Nat.mul_comm]; omega)
    omega
/-- the answers from x, in ascending order -/
def ansL (g : Gr) (a : Au) (x : Int) : List Int :=
  if (wi x 0 ((g.vals.length : Int) - 1) && (grOk g && auOk a)) = true then memI 30 (ansM g a (distFrom g a x) (g.vals.length * a.accept.length)) else []
theorem ansL_asc {g : Gr} {a : Au} {x : Int} (h : (wi x 0 ((g.vals.length : Int) - 1) && (grOk g && auOk a)) = true) : ascL (ansF g a (distFrom g a x) (g.vals.length * a.accept.length)) = ansL g a x := by
  rw [ansL, if_pos h]
  refine asc_uniq (ascL_spec _).1 (memI_asc _ _) fun y => ?_
  rw [(ascL_spec _).2 y, mem_memI]
  simp only [Bool.and_eq_true] at h
  have hn5 := (grOk_iff.1 h.2.1).n5
  unfold ansF
  simp only [List.mem_map, List.mem_filter, List.mem_range]
  constructor
  · rintro ⟨i, ⟨hi, ho⟩, rfl⟩
    have : i / a.accept.length < g.vals.length := Nat.div_lt_of_lt_mul (by rw [Nat.mul_comm]; exact hi)
    exact ⟨i / a.accept.length, rfl, Nat.lt_of_lt_of_le this (by omega), (ansM_test ..).2 ⟨i, hi, ho, rfl⟩⟩
  · rintro ⟨t, rfl, _, ht⟩
    obtain ⟨i, hi, ho, rfl⟩ := (ansM_test ..).1 ht
    exact ⟨i, ⟨hi, ho⟩, rfl⟩
theorem ansL_range {g : Gr} {a : Au} {x y : Int} (h : y ∈ ansL g a x) : 0 ≤ y ∧ y < (g.vals.length : Int) := by
  unfold ansL at h
  split at h
  · obtain ⟨t, rfl, _, ht⟩ := mem_memI.1 h
    obtain ⟨i, hi, _, rfl⟩ := (ansM_test ..).1 ht
    have : i / a.accept.length < g.vals.length := Nat.div_lt_of_lt_mul (by rw [Nat.mul_comm]; exact hi)
    exact ⟨Int.natCast_nonneg _, Int.ofNat_lt.2 this⟩
  · cases h
theorem ansL_len (g : Gr) (a : Au) (x : Int) : (ansL g a x).length ≤ 30 := by
  unfold ansL
  split
  · unfold memI; rw [List.length_map]; exact mem_len _ _
  · simp
def hasAns (g : Gr) (a : Au) (x y : Int) : Bool := (ansL g a x).contains y
section
open Go.ChangeShapes Go.WideShapes Go.ChangeAt Go.RowKit
theorem SlI.intI {lo hi : Nat} {w : World} {A : Option Addr} {n c : Nat} {xs : List Int} (h : SlI lo hi w cI 1 (.slice A n c) xs) {i : Nat} {x : Int} (hx : xs[i]? = some x) :
    ∃ b o, A = some ⟨b, o, none⟩ ∧ lo ≤ b ∧ b < hi ∧ w.cell? ⟨b, o + i, none⟩ = some (.int .i64 x) := by
  obtain ⟨A', c', hv, _, _, h3⟩ := h
  injection hv with h1 _ _
  subst h1
  obtain ⟨b, o, e, g1, g2, hc⟩ := h3 i x hx
  exact ⟨b, o, e, g1, g2, by simpa using hc 0 _ rfl⟩
end
end Go.Proofs.YtpbfdmfkmbdpkaaGreat

/- The reference's l4Set, l15From, AnswersFrom, l11Find, HasAnswer. -/
namespace Go.Proofs.YtpbfdmfkmbdpkaaGreat
set_option linter.unusedVariables false
set_option linter.unusedSimpArgs false
open Go.ChangeShapes Go.WideShapes Go.ChangeAt Go.RowKit
attribute [local go_sem] ext_cell ext_frozen ext_lt ext_lt1 ext_lt2 ext_lt3 ltn2 ltn3 ltn13 lts1 lts2 lts3

set_option maxHeartbeats 2000000 in
theorem l4Set_any (m : Nat) (w : World) (hm : m < 2 ^ 60) :
    Calls Tryz.prog 84 #[.int .i64 (m : Int)] w fun e w' => ∃ v', e = .returned v' ∧ Own w.heap.size w'.heap.size w' 3 cI 1 v' (memI 30 m) ∧ Below w.heap.size w w' := by
  obtain ⟨R, hR⟩ : ∃ R, R = memI 30 m := ⟨_, rfl⟩
  rw [← hR]
  have HR := Lib.hid hR
  clear hR
  go_enter Tryz.func84, Tryz.ntmps84
  go_wp2_with fail
  go_loopw [3, 4] (fun oo ii wr => ∃ i : Nat, i ≤ 30 ∧ ii = .int .i64 (i : Int) ∧ wr.ownsRow w.heap.size 3 1 oo (memI i m).length ((memI i m).flatMap cI) ∧ Below w.heap.size w wr) (fun _ ii _ => 30 - (intOf ii).toNat)
  case atStart => exact ⟨0, Nat.zero_le _, rfl, World.ownsRow_lit w #[] 0 (Nat.le_refl _) (by decide) rfl, (Below.refl _ _).alloc (Nat.le_refl _) _⟩
  case round =>
    obtain ⟨i, hi, rfl, hrow, hbel⟩ := hrel
    have HROW := Lib.hid hrow
    have hml : (memI i m).length ≤ 30 := by unfold memI; rw [List.length_map]; have := mem_len i m; omega
    have hsz := hbel.size
    clear hrow
    by_cases hlt : i < 30
    · have hii : (i : Int) < 30 := by omega
      cases hb : m.testBit i with
      | false =>
        have b1f := bit_off (by omega) (by omega) hb
        have HM := Lib.hid (show memI (i + 1) m = memI i m by unfold memI; rw [mem_no hb])
        clear hb
        go_wp2_with fail
        go_roundw
        case rel => exact ⟨i + 1, by omega, by go_num, by rw [HM.out]; exact HROW.out, hbel⟩
        case measure => simp [intOf]; omega
      | true =>
        have b1t := bit_on (by omega) (by omega) hb
        have HM := Lib.hid (show memI (i + 1) m = memI i m ++ [(i : Int)] by unfold memI; rw [mem_yes hb, List.map_append]; rfl)
        clear hb
        generalize memI i m = L at *
        go_wp2_with (at_builtin; (refine wpList_append1 cI elInt rfl _ _ rfl w.heap.size _ (L) ((i : Int)) _ 1 _ (by rfl) (HROW.out) (by rfl) rfl rfl rfl (cI_one _) (by omega) (by omega) (by omega) ?_); intro v' w4 hrow' hb4 _ _)
        go_roundw
        case rel => exact ⟨i + 1, by omega, by go_num, by rw [HM.out]; exact hrow', hbel.trans hb4⟩
        case measure => simp [intOf]; omega
    · obtain rfl : i = 30 := by omega
      have hown := Own.of_row (xs := memI 30 m) HROW.out rfl rfl
      rw [← HR.out] at hown
      have HO := Lib.hid hown
      obtain ⟨A6, c6, rfl, -, -, -⟩ := (Own.of_row (xs := memI 30 m) HROW.out rfl rfl).form cI_len
      clear hown
      go_wp2_with fail
      go_ret
      exact ⟨_, rfl, HO.out, hbel⟩

set_option maxHeartbeats 4000000 in
set_option maxRecDepth 100000 in
theorem l15From_any (vg va : Value) (g : Gr) (a : Au) (x : Nat) (w : World) (hgv : GrV 0 w.heap.size w vg g) (hav : AuV 0 w.heap.size w va a) (hgo : grOk g = true) (ha : auOk a = true) (hx : x < g.vals.length) :
    Calls Tryz.prog 54 #[vg, va, .int .i64 (x : Int)] w fun e w' => ∃ v', e = .returned v' ∧ Own w.heap.size w'.heap.size w' 3 cI 1 v' (ansL g a (x : Int)) ∧ Below w.heap.size w w' := by
  have hgv0 := hgv
  have hav0 := hav
  obtain ⟨A1, n1, c1, A2, n2, c2, rfl⟩ := hgv.shape
  obtain ⟨A3, c3, A4, c4, rfl, hl3, hm3, hl4, hm4, -⟩ := hav.form ha
  have hg := grOk_iff.1 hgo
  have hn5 := hg.n5
  have hn12 := (auOk_iff.1 ha).1.2
  have hn1 := (auOk_iff.1 ha).1.1
  have hok : (wi (x : Int) 0 ((g.vals.length : Int) - 1) && (grOk g && auOk a)) = true := by simp only [Bool.and_eq_true, wi_iff]; exact ⟨by omega, hgo, ha⟩
  obtain ⟨N, hN⟩ : ∃ N, N = g.vals.length * a.accept.length := ⟨_, rfl⟩
  have hN60 : N ≤ 60 := by rw [hN]; exact Nat.mul_le_mul hn5 hn12
  have hdl : (distFrom g a (x : Int)).length = N := by rw [distFrom_len hok, hN]
  obtain ⟨R, hR⟩ : ∃ R, R = ansL g a (x : Int) := ⟨_, rfl⟩
  have hR2 : R = memI 30 (ansM g a (distFrom g a (x : Int)) N) := by rw [hR, ansL, if_pos hok, hN]
  rw [← hR]
  have HR := Lib.hid hR2
  have HN := Lib.hid hN
  have HGO := Lib.hid hg
  have HAO := Lib.hid ha
  have HAV := Lib.hid hav0
  have HGV := Lib.hid hgv0
  have HGB := Lib.hid hgo
  have hb0 : Below w.heap.size w ((w.alloc (.cells #[.slice A1 n1 c1, .slice A2 n2 c2] 36)).alloc (.cells #[.int .i64 a.start, .slice A3 a.accept.length c3, .slice A4 a.accept.length c4] 38)) := ((Below.refl _ _).alloc (Nat.le_refl _) _).alloc (by simp) _
  clear hgv hav ha hg hgo hav0 hgv0 hR hR2 hok hN
  go_enter Tryz.func54, Tryz.ntmps54
  go_wp2_with fail
  obtain ⟨W0, hW0⟩ : ∃ W0, W0 = ((w.alloc (.cells #[.slice A1 n1 c1, .slice A2 n2 c2] 36)).alloc (.cells #[.int .i64 a.start, .slice A3 a.accept.length c3, .slice A4 a.accept.length c4] 38)) := ⟨_, rfl⟩
  rw [← hW0] at hb0 ⊢
  have x0 : W0.cell? ⟨w.heap.size, 0, none⟩ = some (.slice A1 n1 c1) := by rw [hW0]; simp
  have x1 : W0.cell? ⟨w.heap.size, 1, none⟩ = some (.slice A2 n2 c2) := by rw [hW0]; simp
  have y0 : W0.cell? ⟨w.heap.size + 1, 0, none⟩ = some (.int .i64 a.start) := by rw [hW0]; simp
  have y1 : W0.cell? ⟨w.heap.size + 1, 1, none⟩ = some (.slice A3 a.accept.length c3) := by rw [hW0]; simp
  have y2 : W0.cell? ⟨w.heap.size + 1, 2, none⟩ = some (.slice A4 a.accept.length c4) := by rw [hW0]; simp
  have hs0 : w.heap.size + 1 + 1 = W0.heap.size := by rw [hW0]; simp
  try rw [hs0]
  have l0 : w.heap.size + 1 < W0.heap.size := by omega
  have l00 : w.heap.size < W0.heap.size := by omega
  clear hW0 hs0
  refine (l14Ranks_any _ _ g a x W0 (HGV.out.keep hb0) (HAV.out.keep hb0) HGB.out HAO.out hx).mono ?_
  rintro e w1 ⟨v1, rfl, ho1, hb1⟩
  have hb2 := below_trans hb0 hb1
  have x0 := kcell hb1 x0
  have x1 := kcell hb1 x1
  have y0 := kcell hb1 y0
  have y1 := kcell hb1 y1
  have y2 := kcell hb1 y2
  have hs1 := hb1.size
  have l0 := Nat.lt_of_lt_of_le l0 hs1
  have l00 := Nat.lt_of_lt_of_le l00 hs1
  generalize distFrom g a (x : Int) = D at *
  obtain ⟨A6, c6, rfl, hl6, hm6, hC6⟩ := ho1.form cI_len
  have HC6 := Lib.hid hC6
  rw [hdl] at hl6 ⊢
  have HDL := Lib.hid hdl
  clear hC6 ho1 hb1 hb0 hdl
  go_wp2_with fail
  go_loopw [9, 10] (fun mm ii wr => ∃ (i : Nat) (u : World), i ≤ N ∧ ii = .int .i64 (i : Int) ∧ mm = .int .i64 (ansM g a D i : Nat) ∧ wr = ext w1 u) (fun _ ii _ => N - (intOf ii).toNat)
  case atStart => exact ⟨0, w1, Nat.zero_le _, rfl, rfl, ext_self _⟩
  case round =>
    obtain ⟨i, u, hi, rfl, rfl, rfl⟩ := hrel
    have hbE := below_trans hb2 (ext_below w1 u)
    by_cases hlt : i < N
    · have hgp : g.vals.length * a.accept.length = N := HN.out.symm
      obtain ⟨X, hX⟩ : ∃ X, X = i / a.accept.length := ⟨_, rfl⟩
      obtain ⟨S, hS⟩ : ∃ S, S = i % a.accept.length := ⟨_, rfl⟩
      have hXl : X < g.vals.length := by rw [hX]; exact Nat.div_lt_of_lt_mul (by rw [Nat.mul_comm, hgp]; exact hlt)
      have hSl : S < a.accept.length := by rw [hS]; exact Nat.mod_lt _ hn1
      have hml : ansM g a D i < 2 ^ g.vals.length := ansM_lt (by rw [hgp]; omega)
      have hml32 : ansM g a D i < 32 := Nat.lt_of_lt_of_le hml (Nat.pow_le_pow_right (by omega) hn5)
      have t1 : (i : Int).tdiv (a.accept.length : Int) = (X : Int) := by rw [hX]; rfl
      have t2 : (i : Int).tmod (a.accept.length : Int) = (S : Int) := by rw [hS]; rfl
      have hn0 : ((a.accept.length : Int) == 0) = false := by simp only [beq_eq_false_iff_ne, ne_eq]; omega
      have hae : a.accept ≠ [] := by intro h; rw [h] at hn1; simp at hn1
      have hdi := getD_of (D := D) (k := i) (by have := HDL.out; omega)
      obtain ⟨b6, o6, rfl, hb6, d6⟩ := HC6.out.int hdi
      have hii : (i : Int) < (N : Int) := by omega
      have HOK := Lib.hid (show okV g a D i = (decide (0 ≤ D.getD i 0) && accC a (valAt g X) S) by rw [hX, hS]; rfl)
      have HY := Lib.hid (fun h : okV g a D i = true => (ansM_yes h).trans (by rw [← hX] : ins (ansM g a D i) (i / a.accept.length) = ins (ansM g a D i) X))
      have HNo := Lib.hid (fun h : okV g a D i = false => ansM_no h)
      clear hX hS hgp hdi
      generalize D.getD i 0 = d at *
      have HACC := Lib.hid (fun (W : World) (hW : Below w.heap.size w W) => l14Accepts_any _ _ g a X S W (HGV.out.keep hW) (HAV.out.keep hW) HGO.out HAO.out hXl hSl)
      by_cases hd : 0 ≤ d
      · have hd0 : decide (d ≥ 0) = true := by simpa using hd
        rw [show decide (0 ≤ d) = true by simpa using hd, Bool.true_and] at HOK
        go_wp2_with fail
        refine wp_region_ext_lit (by kernel_rfl) (by kernel_rfl) ?_
        repeat (go_big_quiet_step ((go_at_call 83; exact Calls.ext_of (HACC.out _ (below_trans hbE (ext_below _ _))))))
        refine wpQuiet_nil ?_
        intro _ hw'
        obtain ⟨u2, hw''⟩ := hw'
        subst hw''
        obtain ⟨u4, hu4⟩ := ext_of (below_trans (ext_below w1 u) (ext_below (ext w1 u) u2))
        rw [hu4]
        cases hc : accC a (valAt g X) S with
        | true =>
          have HM := Lib.hid (HY.out (by rw [HOK.out, hc]))
          have e1 := shl_bit (s := X) (by omega)
          generalize ansM g a D i = M at *
          have e2 := or_ins (m := M) (s := X) (by omega) (by omega)
          clear hc
          go_wp2_with fail
          go_roundw
          case rel => exact ⟨i + 1, u4, by omega, by go_num, by rw [HM.out], rfl⟩
          case measure => simp [intOf]; omega
        | false =>
          have HM := Lib.hid (HNo.out (by rw [HOK.out, hc]))
          clear hc
          go_wp2_with fail
          go_roundw
          case rel => exact ⟨i + 1, u4, by omega, by go_num, by rw [HM.out], rfl⟩
          case measure => simp [intOf]; omega
      · have hd0 : decide (d ≥ 0) = false := by simpa using hd
        have HM := Lib.hid (HNo.out (by rw [HOK.out, show decide (0 ≤ d) = false by simpa using hd]; rfl))
        go_wp2_with fail
        refine wp_region_ext_lit (by kernel_rfl) (by kernel_rfl) ?_
        repeat (go_big_quiet_step (fail))
        refine wpQuiet_nil ?_
        intro _ hw'
        obtain ⟨u2, hw''⟩ := hw'
        subst hw''
        obtain ⟨u4, hu4⟩ := ext_of (below_trans (ext_below w1 u) (ext_below (ext w1 u) u2))
        rw [hu4]
        go_wp2_with fail
        go_roundw
        case rel => exact ⟨i + 1, u4, by omega, by go_num, by rw [HM.out], rfl⟩
        case measure => simp [intOf]; omega
    · obtain rfl : i = N := by omega
      have hml : ansM g a D i < 2 ^ g.vals.length := ansM_lt (by rw [← HN.out]; exact Nat.le_refl _)
      have hml32 : ansM g a D i < 2 ^ 60 := Nat.lt_of_lt_of_le hml (Nat.pow_le_pow_right (by omega) (by omega))
      have hset := l4Set_any (ansM g a D i) (ext w1 u) hml32
      rw [← HR.out] at hset
      have HS := Lib.hid hset
      clear hset hml hml32
      go_wp2_with fail
      refine HS.out.mono ?_
      rintro e w9 ⟨v9, rfl, ho9, hb9⟩
      obtain ⟨A9, c9, rfl, -, -, -⟩ := ho9.form cI_len
      have HO := Lib.hid (ho9.mono hbE.size (Nat.le_refl _))
      clear ho9
      go_wp2_with fail
      go_ret
      exact ⟨_, rfl, HO.out, below_trans hbE hb9⟩



end Go.Proofs.YtpbfdmfkmbdpkaaGreat

/- The program's functions on automata. -/
namespace Go.Proofs.YtpbfdmfkmbdpkaaGreat
set_option linter.unusedVariables false
set_option linter.unusedSimpArgs false
open Go.ChangeShapes Go.WideShapes Go.ChangeAt Go.RowKit
attribute [local go_sem] ext_cell ext_frozen ext_lt ext_lt1 ext_lt2 ext_lt3 ltn2 ltn3 ltn13 lts1 lts2 lts3

theorem within_any (n a b : Int) (w : World) : Calls Tryz.prog 69 #[.int .i64 n, .int .i64 a, .int .i64 b] w fun e w' => e = .returned (.bool (wi n a b)) ∧ w' = w := by
  unfold wi
  by_cases h1 : a ≤ n
  · have e1 : decide (a ≤ n) = true := by simpa using h1
    by_cases h2 : n ≤ b
    · go_enter Tryz.func69, Tryz.ntmps69
      go_wp2
      go_ret
      exact ⟨by simp [h1, h2], rfl⟩
    · go_enter Tryz.func69, Tryz.ntmps69
      go_wp2
      go_ret
      exact ⟨by simp [h1]; try omega, rfl⟩
  · have e1 : decide (a ≤ n) = false := by simpa using h1
    go_enter Tryz.func69, Tryz.ntmps69
    go_wp2
    go_ret
    exact ⟨by simp [h1]; try omega, rfl⟩

set_option maxHeartbeats 1000000 in
theorem implValidAutomaton (v : Value) (a : Au) (w : World) (hv : AuV 0 w.heap.size w v a) :
    Calls Tryz.prog 91 #[v] w fun e w' => e = .returned (.bool (auOk a)) ∧ Below w.heap.size w w' := by
  obtain ⟨ac, nx, rfl, ⟨A1, c1, rfl, hl1, hm1, -⟩, us, ⟨A2, c2, rfl, hl2, hm2, hx2⟩, hul, hrows⟩ := hv
  rw [hul] at hl2 ⊢
  have HU := Lib.hid hul
  clear hul
  unfold maxLen at hm1 hm2
  have hb0 : Below w.heap.size w (w.alloc (.cells #[.int .i64 a.start, .slice A1 a.accept.length c1, .slice A2 a.next.length c2] 38)) := (Below.refl _ _).alloc (Nat.le_refl _) _
  have HW := Lib.hid within_any
  by_cases g1 : wi a.accept.length 1 12 = true
  · by_cases g2 : wi a.start 0 ((a.accept.length : Int) - 1) = true
    · by_cases g3 : a.next.length = a.accept.length
      · have HG3 := Lib.hid g3
        have g3' : ((a.next.length : Int) != (a.accept.length : Int)) = false := by simp; omega
        have hr : auOk a = a.next.all (rowOk a.accept.length) := by simp [auOk, g1, g2, g3]
        have HR := Lib.hid hr
        clear hr g3
        obtain ⟨hn1, hn2⟩ := wi_iff.1 g1
        go_enter Tryz.func91, Tryz.ntmps91
        go_wp2_with (go_at_call 69; refine (HW.out _ _ _ _).mono ?_; rintro e w' ⟨rfl, rfl⟩)
        go_loop [32] (fun ii => ∃ i : Nat, i ≤ a.next.length ∧ ii = .int .i64 i ∧ (a.next.take i).all (rowOk a.accept.length) = true) (fun ii => a.next.length - (intOf ii).toNat)
        case atStart => exact ⟨0, Nat.zero_le _, rfl, rfl⟩
        case round =>
          obtain ⟨i, hi, rfl, hall⟩ := hrel
          have HA := Lib.hid hall
          clear hall
          by_cases hlt : i < a.next.length
          · obtain ⟨u, hu⟩ : ∃ u, us[i]? = some u := ⟨_, List.getElem?_eq_getElem (by have := HU.out; omega)⟩
            obtain ⟨b, o, rfl, -, hb1, hc⟩ := hx2 i u hu
            have hxi : a.next[i]? = some a.next[i] := List.getElem?_eq_getElem hlt
            have hvi := hrows i u _ hu hxi
            generalize a.next[i] = row at hvi hxi
            have c0 := hc 0 _ rfl
            simp only [Nat.mul_one, Nat.add_zero] at c0
            obtain ⟨A3, c3, rfl, hl3, hm3, hx3⟩ := hvi
            unfold maxLen at hm3
            have HX := Lib.hid hxi
            clear hc hx2 hu hxi hrows
            go_wp2_with fail
            go_loop [38] (fun jj => ∃ j : Nat, j ≤ row.length ∧ jj = .int .i64 j ∧ (row.take j).all (fun t => wi t (-1) ((a.accept.length : Int) - 1)) = true) (fun jj => row.length - (intOf jj).toNat)
            case atStart => exact ⟨0, Nat.zero_le _, rfl, rfl⟩
            case round =>
              obtain ⟨j, hj, rfl, hall2⟩ := hrel
              have HB := Lib.hid hall2
              clear hall2
              by_cases hlt2 : j < row.length
              · have hxj : row[j]? = some row[j] := List.getElem?_eq_getElem hlt2
                obtain ⟨b2, o2, rfl, -, hb2, hc2⟩ := hx3 j _ hxj
                generalize row[j] = t at hc2 hxj
                have d0 := hc2 0 _ rfl
                simp only [Nat.mul_one, Nat.add_zero] at d0
                have HXJ := Lib.hid hxj
                clear hc2 hx3 hxj
                by_cases g4 : wi t (-1) ((a.accept.length : Int) - 1) = true
                · go_wp2_with (go_at_call 69; refine (HW.out _ _ _ _).mono ?_; rintro e w' ⟨rfl, rfl⟩)
                  go_round
                  case rel => exact ⟨j + 1, by omega, by go_num, all_take_succ HXJ.out HB.out g4⟩
                  case measure => simp [intOf]; omega
                · simp only [Bool.not_eq_true] at g4
                  have hfin : auOk a = false := by
                    rw [HR.out]
                    refine all_false_of HX.out ?_
                    rw [rowOk, all_false_of HXJ.out g4]
                    rfl
                  have HF := Lib.hid hfin
                  clear hfin
                  go_wp2_with (go_at_call 69; refine (HW.out _ _ _ _).mono ?_; rintro e w' ⟨rfl, rfl⟩)
                  go_ret
                  exact ⟨by rw [HF.out]; rfl, hb0⟩
              · obtain rfl : j = row.length := by omega
                have hall3 : row.all (fun t => wi t (-1) ((a.accept.length : Int) - 1)) = true := by have := HB.out; rwa [List.take_length] at this
                have H3 := Lib.hid hall3
                clear hall3
                clear hx3
                by_cases g9 : row.length = 9
                · have g9' : ((row.length : Int) != 9) = false := by simp; omega
                  have hok : rowOk a.accept.length row = true := by rw [rowOk, H3.out, g9]; rfl
                  have HO := Lib.hid hok
                  clear hok g9
                  go_wp2_with fail
                  go_round
                  case rel => exact ⟨i + 1, by omega, by go_num, all_take_succ HX.out HA.out HO.out⟩
                  case measure => simp [intOf]; omega
                · have g9' : ((row.length : Int) != 9) = true := by simp; omega
                  have hfin : auOk a = false := by
                    rw [HR.out]
                    refine all_false_of HX.out ?_
                    rw [rowOk]
                    simp [g9]
                  have HF := Lib.hid hfin
                  clear hfin g9
                  go_wp2_with fail
                  go_ret
                  exact ⟨by rw [HF.out]; rfl, hb0⟩
          · obtain rfl : i = a.next.length := by omega
            have hfin : auOk a = true := by rw [HR.out]; have := HA.out; rwa [List.take_length] at this
            have HF := Lib.hid hfin
            clear hfin hx2 hrows
            go_wp2_with fail
            go_ret
            exact ⟨by rw [HF.out]; rfl, hb0⟩
      · have g3' : ((a.next.length : Int) != (a.accept.length : Int)) = true := by simp; omega
        have hr : auOk a = false := by simp [auOk, g3]
        have HR := Lib.hid hr
        clear hr g3
        go_enter Tryz.func91, Tryz.ntmps91
        go_wp2_with (go_at_call 69; refine (HW.out _ _ _ _).mono ?_; rintro e w' ⟨rfl, rfl⟩)
        go_ret
        exact ⟨by rw [HR.out]; rfl, hb0⟩
    · simp only [Bool.not_eq_true] at g2
      have hr : auOk a = false := by simp [auOk, g2]
      have HR := Lib.hid hr
      clear hr
      go_enter Tryz.func91, Tryz.ntmps91
      go_wp2_with (go_at_call 69; refine (HW.out _ _ _ _).mono ?_; rintro e w' ⟨rfl, rfl⟩)
      go_ret
      exact ⟨by rw [HR.out]; rfl, hb0⟩
  · simp only [Bool.not_eq_true] at g1
    have hr : auOk a = false := by simp [auOk, g1]
    have HR := Lib.hid hr
    clear hr
    go_enter Tryz.func91, Tryz.ntmps91
    go_wp2_with (go_at_call 69; refine (HW.out _ _ _ _).mono ?_; rintro e w' ⟨rfl, rfl⟩)
    go_ret
    exact ⟨by rw [HR.out]; rfl, hb0⟩

end Go.Proofs.YtpbfdmfkmbdpkaaGreat

/- The program's sets of states: move, closure, members, after, acceptsAt. -/
namespace Go.Proofs.YtpbfdmfkmbdpkaaGreat
set_option linter.unusedVariables false
set_option linter.unusedSimpArgs false
open Go.ChangeShapes Go.WideShapes Go.ChangeAt Go.RowKit
attribute [local go_sem] ext_cell ext_frozen ext_lt ext_lt1 ext_lt2 ext_lt3 ltn2 ltn3 ltn13 lts1 lts2 lts3

theorem isLetter_any (n : Int) (w : World) : Calls Tryz.prog 150 #[.int .i64 n] w fun e w' => e = .returned (.bool (wi n 0 8)) ∧ w' = w := by
  have HW := Lib.hid within_any
  go_enter Tryz.func150, Tryz.ntmps150
  go_wp2_with (go_at_call 69; refine (HW.out _ _ _ _).mono ?_; rintro e w' ⟨rfl, rfl⟩)
  go_ret
  exact ⟨rfl, rfl⟩

def mvI (a : Au) (s l : Int) : Int := if 0 ≤ s ∧ wi l 0 8 = true then mv a s.toNat l.toNat else -1
theorem mvI_in {a : Au} {s l : Nat} (hl : l < 9) : mvI a s l = mv a s l := by
  rw [mvI, if_pos ⟨by omega, wi_iff.2 ⟨by omega, by omega⟩⟩]; simp
set_option maxHeartbeats 1000000 in
theorem move_any (v : Value) (a : Au) (s l : Int) (w : World) (hv : AuV 0 w.heap.size w v a) (hok : auOk a = true) (hs : s < (a.accept.length : Int)) :
    Calls Tryz.prog 135 #[v, .int .i64 s, .int .i64 l] w fun e w' => e = .returned (.int .i64 (mvI a s l)) ∧ Below w.heap.size w w' := by
  obtain ⟨A1, c1, A2, c2, rfl, hl1, hm1, hl2, hm2, hC⟩ := hv.form hok
  have HL := Lib.hid isLetter_any
  have hb0 : Below w.heap.size w (w.alloc (.cells #[.int .i64 a.start, .slice A1 a.accept.length c1, .slice A2 a.accept.length c2] 38)) := (Below.refl _ _).alloc (Nat.le_refl _) _
  have HOK := Lib.hid hok
  clear hok hv
  by_cases h0 : s < 0
  · have hfin : mvI a s l = -1 := by rw [mvI, if_neg (by omega)]
    have HF := Lib.hid hfin
    clear hfin
    go_enter Tryz.func135, Tryz.ntmps135
    go_wp2_with fail
    go_ret
    exact ⟨by rw [HF.out]; rfl, hb0⟩
  · obtain ⟨s, rfl⟩ := Int.eq_ofNat_of_zero_le (show 0 ≤ s by omega)
    cases hl : wi l 0 8 with
    | false =>
      have hfin : mvI a s l = -1 := by rw [mvI, if_neg (by simp [hl])]
      have HF := Lib.hid hfin
      clear hfin
      go_enter Tryz.func135, Tryz.ntmps135
      go_wp2_with (go_at_call 150; refine (HL.out _ _).mono ?_; rintro e w' ⟨rfl, rfl⟩)
      go_ret
      exact ⟨by rw [HF.out]; rfl, hb0⟩
    | true =>
      have hl0 := wi_iff.1 hl
      obtain ⟨l, rfl⟩ := Int.eq_ofNat_of_zero_le hl0.1
      obtain ⟨b2, o2, b3, o3, c3, rfl, hb2, d2, hl3, hm3, hb3, hc3⟩ := hC.row s (by omega)
      have hl9 : l < 9 := by omega
      have d3 := hc3 l hl9
      have HF := Lib.hid (mvI_in (a := a) (s := s) (l := l) (by omega))
      clear hc3 hC hl0
      go_enter Tryz.func135, Tryz.ntmps135
      go_wp2_with (go_at_call 150; refine (HL.out _ _).mono ?_; rintro e w' ⟨rfl, rfl⟩)
      go_ret
      exact ⟨by rw [HF.out]; rfl, hb0⟩

set_option maxHeartbeats 1000000 in
theorem closure_any (v : Value) (a : Au) (s x : Nat) (w : World) (hv : AuV 0 w.heap.size w v a) (hok : auOk a = true) (hs : s < a.accept.length) (hx : x ≤ 2) :
    Calls Tryz.prog 119 #[v, .int .i64 (s : Int), .int .i64 (x : Int)] w fun e w' => e = .returned (.int .i64 (cls a x s : Int)) ∧ Below w.heap.size w w' := by
  have hv0 := hv
  obtain ⟨A1, c1, A2, c2, rfl, -⟩ := hv.form hok
  clear hv
  have hn12 : a.accept.length ≤ 12 := (auOk_iff.1 hok).1.2
  have hb0 : Below w.heap.size w (w.alloc (.cells #[.int .i64 a.start, .slice A1 a.accept.length c1, .slice A2 a.accept.length c2] 38)) := (Below.refl _ _).alloc (Nat.le_refl _) _
  have HV := Lib.hid hv0
  have HOK := Lib.hid hok
  clear hok
  obtain ⟨R, hR⟩ : ∃ R, R = cls a x s := ⟨_, rfl⟩
  rw [← hR]
  have HR := Lib.hid hR
  clear hR hv0
  go_enter Tryz.func119, Tryz.ntmps119
  go_wp2_with fail
  go_loopw [7, 8] (fun st ss wr => ∃ (f m : Nat) (s : Int) (u : World), st = .int .i64 (m : Int) ∧ ss = .int .i64 s ∧ clsF a (6 + x) f s m = R ∧ f + (mem 12 m).length = 13 ∧ m < 2 ^ a.accept.length ∧ s < (a.accept.length : Int) ∧ wr = ext (w.alloc (.cells #[.int .i64 a.start, .slice A1 a.accept.length c1, .slice A2 a.accept.length c2] 38)) u) (fun st _ _ => 13 - (mem 12 (intOf st).toNat).length)
  case atStart => exact ⟨13, 0, s, _, rfl, rfl, HR.out.symm, by simp [mem], Nat.two_pow_pos _, by omega, ext_self _⟩
  case round =>
    obtain ⟨f, m, s, u, rfl, rfl, hcl, hf, hm, hs, rfl⟩ := hrel
    have hm2 := lt12 HOK.out hm
    have hml := mem_len 12 m
    have HC := Lib.hid hcl
    have HFC := Lib.hid hf
    have hbw := below_trans hb0 (ext_below _ u)
    clear hcl hf
    by_cases h0 : 0 ≤ s
    · obtain ⟨s, rfl⟩ := Int.eq_ofNat_of_zero_le h0
      have hs12 : s < 12 := by omega
      have e1 := shl_bit (s := s) (by omega)
      have e2 := or_ins (m := m) (s := s) (by omega) (by omega)
      cases hb : m.testBit s with
      | true =>
        have e3 := bit_on (by omega) (by omega) hb
        have hfin : m = R := by rw [← HC.out]; exact (clsF_stop (.inr (by simpa using hb))).symm
        have HF := Lib.hid hfin
        clear hfin hb h0
        go_wp2_with fail
        go_ret
        exact ⟨by rw [HF.out]; rfl, hbw⟩
      | false =>
        have e3 := bit_off (by omega) (by omega) hb
        have HB := Lib.hid hb
        have hmv := mv_lt HOK.out s (6 + x)
        clear hb h0
        go_wp2_with fail
        refine (move_any _ a (s : Int) _ _ (HV.out.keep hbw) HOK.out (by omega)).mono ?_
        rintro e w1 ⟨rfl, hb1⟩
        obtain ⟨u1, rfl⟩ := ext_of (below_trans (ext_below _ u) hb1)
        rw [show (6 : Int) + (x : Int) = ((6 + x : Nat) : Int) by omega, mvI_in (by omega)]
        go_wp2_with fail
        go_roundw
        case rel =>
          have h1 := cnt_or (n := 12) (m := m) hs12 HB.out
          have h2 := HFC.out
          obtain ⟨f, rfl⟩ : ∃ f', f = f' + 1 := ⟨f - 1, by omega⟩
          refine ⟨f, ins m s, _, _, rfl, rfl, by rw [← HC.out]; exact (clsF_go HB.out).symm, by omega, ins_lt hm (by omega), by omega, rfl⟩
        case measure =>
          have h1 := cnt_or (n := 12) (m := m) hs12 HB.out
          simp [intOf]; omega
    · have hfin : m = R := by rw [← HC.out]; exact (clsF_stop (.inl (by omega))).symm
      have h0' : decide (s ≥ 0) = false := by simp; omega
      have HF := Lib.hid hfin
      clear hfin
      go_wp2_with fail
      go_ret
      exact ⟨by rw [HF.out]; rfl, hbw⟩

set_option maxHeartbeats 1000000 in
theorem members_any (m : Nat) (w : World) (hm : m < 4096) :
    Calls Tryz.prog 118 #[.int .i64 (m : Int)] w fun e w' => ∃ v', e = .returned v' ∧ Own w.heap.size w'.heap.size w' 3 cN 1 v' (mem 12 m) ∧ Below w.heap.size w w' := by
  obtain ⟨R, hR⟩ : ∃ R, R = mem 12 m := ⟨_, rfl⟩
  rw [← hR]
  have HR := Lib.hid hR
  clear hR
  go_enter Tryz.func118, Tryz.ntmps118
  go_wp2_with fail
  go_loopw [3, 4] (fun out ii wr => ∃ i : Nat, i ≤ 12 ∧ ii = .int .i64 (i : Int) ∧ wr.ownsRow w.heap.size 3 1 out (mem i m).length ((mem i m).flatMap cN) ∧ Below w.heap.size w wr) (fun _ ii _ => 12 - (intOf ii).toNat)
  case atStart => exact ⟨0, Nat.zero_le _, rfl, World.ownsRow_lit w #[] 0 (Nat.le_refl _) (by decide) rfl, (Below.refl _ _).alloc (Nat.le_refl _) _⟩
  case round =>
    obtain ⟨i, hi, rfl, hrow, hbel⟩ := hrel
    have HROW := Lib.hid hrow
    have hs := hbel.size
    have hml := mem_len i m
    clear hrow
    by_cases hlt : 2 ^ i ≤ m
    · have e1 := shr_on (by omega) hlt
      have hi12 : i < 12 := by
        rcases Nat.lt_or_ge i 12 with h | h
        · exact h
        · have : 2 ^ 12 ≤ 2 ^ i := Nat.pow_le_pow_right (by omega) h
          omega
      clear hlt
      cases hb : m.testBit i with
      | true =>
        have e3 := bit_on (by omega) (by omega) hb
        have HM := Lib.hid (mem_yes hb)
        clear hb
        go_wp2_with (at_builtin; (refine wpList_append1 cN elInt rfl _ _ rfl w.heap.size _ (mem i m) i _ 1 _ (by rfl) HROW.out (by rfl) rfl rfl rfl (cN_one _) (by omega) (by omega) hs ?_); rw [← HM.out]; intro v' w4 hrow' hb4 _ _)
        go_roundw
        case rel => exact ⟨i + 1, by omega, by go_num, hrow', hbel.trans hb4⟩
        case measure => simp [intOf]; omega
      | false =>
        have e3 := bit_off (by omega) (by omega) hb
        have HM := Lib.hid (mem_no hb)
        clear hb
        go_wp2_with fail
        go_roundw
        case rel => exact ⟨i + 1, by omega, by go_num, by rw [HM.out]; exact HROW.out, hbel⟩
        case measure => simp [intOf]; omega
    · have e1 := shr_off (i := i) (m := m) (by omega) (by omega)
      have hfin : R = mem i m := by rw [HR.out]; exact mem_stop (by omega) hi
      have HF := Lib.hid hfin
      clear hfin hlt
      go_wp2_with fail
      go_ret
      exact ⟨_, rfl, by rw [HF.out]; exact Own.of_row HROW.out rfl rfl, hbel⟩

set_option maxHeartbeats 2000000 in
theorem after_any (v : Value) (a : Au) (set x l : Nat) (w : World) (hv : AuV 0 w.heap.size w v a) (hok : auOk a = true) (hset : set < 2 ^ a.accept.length) (hx : x ≤ 2) (hl : l < 9) :
    Calls Tryz.prog 129 #[v, .int .i64 (set : Int), .int .i64 (x : Int), .int .i64 (l : Int)] w fun e w' => e = .returned (.int .i64 (aft a set x l : Int)) ∧ Below w.heap.size w w' := by
  have hv0 := hv
  obtain ⟨A1, c1, A2, c2, rfl, -⟩ := hv.form hok
  clear hv
  have hn12 : a.accept.length ≤ 12 := (auOk_iff.1 hok).1.2
  have hb0 : Below w.heap.size w (w.alloc (.cells #[.int .i64 a.start, .slice A1 a.accept.length c1, .slice A2 a.accept.length c2] 38)) := (Below.refl _ _).alloc (Nat.le_refl _) _
  have HV := Lib.hid hv0
  have HOK := Lib.hid hok
  have HSET := Lib.hid hset
  have h4096 := lt12 hok hset
  clear hok hv0 hset
  go_enter Tryz.func129, Tryz.ntmps129
  go_wp2_with fail
  refine (members_any set _ h4096).mono ?_
  rintro e w1 ⟨v1, rfl, ho, hb1⟩
  obtain ⟨A3, c3, rfl, hl3, hm3, hC3⟩ := ho.form cN_len
  have hml := mem_len 12 set
  have hb2 := below_trans hb0 hb1
  have HC3 := Lib.hid hC3
  have b0 := (Blk.new w _ _ w.heap.size rfl).keep hb1
  have x0 : w1.cell? ⟨w.heap.size, 0, none⟩ = some _ := b0.cell 0
  have x1 : w1.cell? ⟨w.heap.size, 1, none⟩ = some _ := b0.cell 1
  have x2 : w1.cell? ⟨w.heap.size, 2, none⟩ = some _ := b0.cell 2
  have l0 := b0.lt
  clear b0
  clear hb1 hb0 ho hC3
  go_wp2_with fail
  have hfl : ∀ i, ((mem 12 set).take i).foldl (aftS a x l) 0 < 2 ^ a.accept.length := fun i => foldl_inv (P := fun m => m < 2 ^ a.accept.length) (fun m s hm => aftS_lt HOK.out x l m s hm) _ _ (Nat.two_pow_pos _)
  have HFL := Lib.hid hfl
  clear hfl
  go_loopw [9, 18] (fun out ii wr => ∃ (i : Nat) (u : World), i ≤ (mem 12 set).length ∧ ii = .int .i64 (i : Int) ∧ out = .int .i64 (((mem 12 set).take i).foldl (aftS a x l) 0 : Nat) ∧ wr = ext w1 u) (fun _ ii _ => (mem 12 set).length - (intOf ii).toNat)
  case atStart => exact ⟨0, w1, Nat.zero_le _, rfl, rfl, ext_self _⟩
  case round =>
    obtain ⟨i, u, hi, rfl, rfl, rfl⟩ := hrel
    by_cases hlt : i < (mem 12 set).length
    · have hsi : (mem 12 set)[i]? = some (mem 12 set)[i] := List.getElem?_eq_getElem hlt
      have hsm := mem_mem.1 (List.getElem_mem hlt)
      generalize (mem 12 set)[i] = s at hsi hsm
      have hsn : s < a.accept.length := by
        rcases Nat.lt_or_ge s a.accept.length with h | h
        · exact h
        · have := Nat.testBit_lt_two_pow (Nat.lt_of_lt_of_le HSET.out (Nat.pow_le_pow_right (by omega) h))
          rw [hsm.2] at this; cases this
      obtain ⟨b3, o3, rfl, hb3, d3⟩ := HC3.out.nat hsi
      have HFT := Lib.hid (foldl_take (f := aftS a x l) hsi 0)
      have hbw := below_trans hb2 (ext_below w1 u)
      have hm0 := HFL.out i
      generalize ((mem 12 set).take i).foldl (aftS a x l) 0 = m0 at *
      clear hsi hsm
      go_wp2_with fail
      refine (closure_any _ a s x _ (HV.out.keep hbw) HOK.out hsn hx).mono ?_
      rintro e w2 ⟨rfl, hb5⟩
      obtain ⟨u2, rfl⟩ := ext_of (below_trans (ext_below w1 u) hb5)
      have hcl := cls_lt HOK.out x s hsn
      have hcl4 := lt12 HOK.out hcl
      go_wp2_with fail
      refine (members_any (cls a x s) _ hcl4).mono ?_
      rintro e w3 ⟨v4, rfl, ho4, hb6⟩
      obtain ⟨A4, c4, rfl, hl4, hm4, hC4⟩ := ho4.form cN_len
      have hml4 := mem_len 12 (cls a x s)
      have hb7 := below_trans (ext_below w1 u2) hb6
      have hb8 := below_trans hb2 hb7
      have x0 := bcell hb7 x0 l0
      have x1 := bcell hb7 x1 l0
      have x2 := bcell hb7 x2 l0
      have l0 := Nat.lt_of_lt_of_le l0 hb7.size
      have HC4 := Lib.hid hC4
      have HCL := Lib.hid hcl
      clear hb6 hb5 hbw ho4 hC4 hcl
      go_wp2_with fail
      go_loopw [9, 28] (fun out jj wr => ∃ (j : Nat) (u : World), j ≤ (mem 12 (cls a x s)).length ∧ jj = .int .i64 (j : Int) ∧ out = .int .i64 (((mem 12 (cls a x s)).take j).foldl (aft1 a l) m0 : Nat) ∧ wr = ext w3 u) (fun _ jj _ => (mem 12 (cls a x s)).length - (intOf jj).toNat)
      case atStart => exact ⟨0, w3, Nat.zero_le _, rfl, rfl, ext_self _⟩
      case round =>
        obtain ⟨j, u3, hj, rfl, rfl, rfl⟩ := hrel
        by_cases hlt2 : j < (mem 12 (cls a x s)).length
        · have hti : (mem 12 (cls a x s))[j]? = some (mem 12 (cls a x s))[j] := List.getElem?_eq_getElem hlt2
          have htm := mem_mem.1 (List.getElem_mem hlt2)
          generalize (mem 12 (cls a x s))[j] = t at hti htm
          have htn : t < a.accept.length := by
            rcases Nat.lt_or_ge t a.accept.length with h | h
            · exact h
            · have := Nat.testBit_lt_two_pow (Nat.lt_of_lt_of_le HCL.out (Nat.pow_le_pow_right (by omega) h))
              rw [htm.2] at this; cases this
          obtain ⟨b4, o4, rfl, hb4, d4⟩ := HC4.out.nat hti
          have HFT2 := Lib.hid (foldl_take (f := aft1 a l) hti m0)
          have hm1 : ((mem 12 (cls a x s)).take j).foldl (aft1 a l) m0 < 2 ^ a.accept.length := foldl_inv (P := fun m => m < 2 ^ a.accept.length) (fun m s hm => aft1_lt HOK.out l m s hm) _ _ hm0
          have hm14 := lt12 HOK.out hm1
          generalize ((mem 12 (cls a x s)).take j).foldl (aft1 a l) m0 = m1 at *
          have hbw := below_trans hb8 (ext_below w3 u3)
          have hmv := mv_lt HOK.out t l
          have HA := Lib.hid (show aft1 a l m1 t = if 0 ≤ mv a t l then ins m1 (mv a t l).toNat else m1 from rfl)
          clear hti htm hm0
          go_wp2_with fail
          refine (move_any _ a (t : Int) (l : Int) _ (HV.out.keep hbw) HOK.out (by omega)).mono ?_
          rintro e w4 ⟨rfl, hb9⟩
          obtain ⟨u4, rfl⟩ := ext_of (below_trans (ext_below w3 u3) hb9)
          rw [mvI_in hl]
          clear hb9
          by_cases h0 : 0 ≤ mv a t l
          · generalize mv a t l = z at *
            obtain ⟨z, rfl⟩ := Int.eq_ofNat_of_zero_le h0
            have e1 := shl_bit (s := z) (by omega)
            have e2 := or_ins (m := m1) (s := z) (by omega) (by omega)
            go_wp2_with fail
            go_roundw
            case rel => exact ⟨j + 1, u4, by omega, by go_num, by rw [HFT2.out, HA.out, if_pos h0]; simp, rfl⟩
            case measure => simp [intOf]; omega
          · have h0' : decide (mv a t l ≥ 0) = false := by simp; omega
            go_wp2_with fail
            go_roundw
            case rel => exact ⟨j + 1, u4, by omega, by go_num, by rw [HFT2.out, HA.out, if_neg (by omega)], rfl⟩
            case measure => simp [intOf]; omega
        · obtain rfl : j = (mem 12 (cls a x s)).length := by omega
          have HT := Lib.hid (show ((mem 12 (cls a x s)).take (mem 12 (cls a x s)).length).foldl (aft1 a l) m0 = aftS a x l m0 s by rw [List.take_length]; rfl)
          go_wp2_with fail
          go_roundw
          case rel =>
            obtain ⟨u5, hu5⟩ := ext_of (below_trans hb7 (ext_below w3 u3))
            exact ⟨i + 1, u5, by omega, by go_num, by rw [HFT.out, HT.out], hu5⟩
          case measure => simp [intOf]; omega
    · obtain rfl : i = (mem 12 set).length := by omega
      have HT := Lib.hid (show ((mem 12 set).take (mem 12 set).length).foldl (aftS a x l) 0 = aft a set x l by rw [List.take_length]; rfl)
      go_wp2_with fail
      go_ret
      exact ⟨by rw [HT.out]; rfl, below_trans hb2 (ext_below w1 u)⟩

theorem bit_in {n m t : Nat} (hm : m < 2 ^ n) (ht : m.testBit t = true) : t < n := by
  rcases Nat.lt_or_ge t n with h | h
  · exact h
  · have := Nat.testBit_lt_two_pow (Nat.lt_of_lt_of_le hm (Nat.pow_le_pow_right (by omega) h))
    rw [ht] at this; cases this
theorem any_take {α : Type} {p : α → Bool} {xs : List α} {i : Nat} {x : α} (h : xs[i]? = some x) : (xs.take (i + 1)).any p = ((xs.take i).any p || p x) := by
  rw [take_snoc h, List.any_append]; simp
theorem any_of_at {α : Type} {p : α → Bool} {xs : List α} {i : Nat} {x : α} (h : xs[i]? = some x) (hp : p x = true) : xs.any p = true := List.any_eq_true.2 ⟨x, List.mem_of_getElem? h, hp⟩
set_option maxHeartbeats 2000000 in
theorem acceptsAt_any (v : Value) (a : Au) (set x : Nat) (w : World) (hv : AuV 0 w.heap.size w v a) (hok : auOk a = true) (hset : set < 2 ^ a.accept.length) (hx : x ≤ 2) :
    Calls Tryz.prog 93 #[v, .int .i64 (set : Int), .int .i64 (x : Int)] w fun e w' => e = .returned (.bool (acc a set x)) ∧ Below w.heap.size w w' := by
  have hv0 := hv
  obtain ⟨A1, c1, A2, c2, rfl, hl1, hm1, -, -, hAC, -⟩ := hv.form hok
  clear hv
  have hn12 : a.accept.length ≤ 12 := (auOk_iff.1 hok).1.2
  have hb0 : Below w.heap.size w (w.alloc (.cells #[.int .i64 a.start, .slice A1 a.accept.length c1, .slice A2 a.accept.length c2] 38)) := (Below.refl _ _).alloc (Nat.le_refl _) _
  have HV := Lib.hid hv0
  have HOK := Lib.hid hok
  have HSET := Lib.hid hset
  have HAC := Lib.hid hAC
  have h4096 := lt12 hok hset
  clear hok hv0 hset hAC
  go_enter Tryz.func93, Tryz.ntmps93
  go_wp2_with fail
  refine (members_any set _ h4096).mono ?_
  rintro e w1 ⟨v1, rfl, ho, hb1⟩
  obtain ⟨A3, c3, rfl, hl3, hm3, hC3⟩ := ho.form cN_len
  have hml := mem_len 12 set
  have hb2 := below_trans hb0 hb1
  have HC3 := Lib.hid hC3
  have b0 := (Blk.new w _ _ w.heap.size rfl).keep hb1
  have x0 : w1.cell? ⟨w.heap.size, 0, none⟩ = some _ := b0.cell 0
  have x1 : w1.cell? ⟨w.heap.size, 1, none⟩ = some _ := b0.cell 1
  have x2 : w1.cell? ⟨w.heap.size, 2, none⟩ = some _ := b0.cell 2
  have l0 := b0.lt
  clear b0
  clear hb1 hb0 ho hC3
  go_wp2_with fail
  go_loopw [14] (fun ii wr => ∃ (i : Nat) (u : World), i ≤ (mem 12 set).length ∧ ii = .int .i64 (i : Int) ∧ ((mem 12 set).take i).any (accC a x) = false ∧ wr = ext w1 u) (fun ii _ => (mem 12 set).length - (intOf ii).toNat)
  case atStart => exact ⟨0, w1, Nat.zero_le _, rfl, rfl, ext_self _⟩
  case round =>
    obtain ⟨i, u, hi, rfl, hno, rfl⟩ := hrel
    have HNO := Lib.hid hno
    clear hno
    by_cases hlt : i < (mem 12 set).length
    · have hsi : (mem 12 set)[i]? = some (mem 12 set)[i] := List.getElem?_eq_getElem hlt
      have hsm := mem_mem.1 (List.getElem_mem hlt)
      generalize (mem 12 set)[i] = s at hsi hsm
      have hsn := bit_in HSET.out hsm.2
      obtain ⟨b3, o3, rfl, hb3, d3⟩ := HC3.out.nat hsi
      have hbw := below_trans hb2 (ext_below w1 u)
      have HSI := Lib.hid hsi
      clear hsi hsm
      go_wp2_with fail
      refine (closure_any _ a s x _ (HV.out.keep hbw) HOK.out hsn hx).mono ?_
      rintro e w2 ⟨rfl, hb5⟩
      obtain ⟨u2, rfl⟩ := ext_of (below_trans (ext_below w1 u) hb5)
      have hcl := cls_lt HOK.out x s hsn
      have hcl4 := lt12 HOK.out hcl
      go_wp2_with fail
      refine (members_any (cls a x s) _ hcl4).mono ?_
      rintro e w3 ⟨v4, rfl, ho4, hb6⟩
      obtain ⟨A4, c4, rfl, hl4, hm4, hC4⟩ := ho4.form cN_len
      have hml4 := mem_len 12 (cls a x s)
      have hb7 := below_trans (ext_below w1 u2) hb6
      have hb8 := below_trans hb2 hb7
      have x0 := bcell hb7 x0 l0
      have x1 := bcell hb7 x1 l0
      have x2 := bcell hb7 x2 l0
      have l0 := Nat.lt_of_lt_of_le l0 hb7.size
      have HC4 := Lib.hid hC4
      have HCL := Lib.hid hcl
      have HAC3 := Lib.hid (HAC.out.keep hb8)
      have HAE := Lib.hid (show accC a x s = (mem 12 (cls a x s)).any fun t => a.accept.getD t false from rfl)
      clear hb6 hb5 hbw ho4 hC4 hcl
      go_wp2_with fail
      go_loopw [24] (fun jj wr => ∃ (j : Nat) (u : World), j ≤ (mem 12 (cls a x s)).length ∧ jj = .int .i64 (j : Int) ∧ ((mem 12 (cls a x s)).take j).any (fun t => a.accept.getD t false) = false ∧ wr = ext w3 u) (fun jj _ => (mem 12 (cls a x s)).length - (intOf jj).toNat)
      case atStart => exact ⟨0, w3, Nat.zero_le _, rfl, rfl, ext_self _⟩
      case round =>
        obtain ⟨j, u3, hj, rfl, hno, rfl⟩ := hrel
        have HNJ := Lib.hid hno
        clear hno
        by_cases hlt2 : j < (mem 12 (cls a x s)).length
        · have hti : (mem 12 (cls a x s))[j]? = some (mem 12 (cls a x s))[j] := List.getElem?_eq_getElem hlt2
          have htm := mem_mem.1 (List.getElem_mem hlt2)
          generalize (mem 12 (cls a x s))[j] = t at hti htm
          have htn := bit_in HCL.out htm.2
          obtain ⟨b4, o4, rfl, hb4, d4⟩ := HC4.out.nat hti
          have hbw := below_trans hb8 (ext_below w3 u3)
          have hai : a.accept[t]? = some a.accept[t] := List.getElem?_eq_getElem htn
          obtain ⟨b5, o5, rfl, hb5, d5⟩ := HAC3.out.bool hai
          have hag : a.accept.getD t false = a.accept[t] := by simp [List.getD, hai]
          generalize a.accept[t] = b at *
          have HAG := Lib.hid hag
          have HTI := Lib.hid hti
          clear hti htm hai hag
          cases b with
          | true =>
            have hfin : acc a set x = true := any_of_at HSI.out (by rw [HAE.out]; exact any_of_at HTI.out HAG.out)
            have HF := Lib.hid hfin
            clear hfin
            go_wp2_with fail
            go_ret
            exact ⟨by rw [HF.out]; rfl, hbw⟩
          | false =>
            go_wp2_with fail
            go_roundw
            case rel => exact ⟨j + 1, u3, by omega, by go_num, by rw [any_take HTI.out, HNJ.out, HAG.out]; rfl, rfl⟩
            case measure => simp [intOf]; omega
        · obtain rfl : j = (mem 12 (cls a x s)).length := by omega
          have HT := Lib.hid (show accC a x s = false by have h := HNJ.out; rw [List.take_length] at h; rw [HAE.out]; exact h)
          go_wp2_with fail
          go_roundw
          case rel =>
            obtain ⟨u5, hu5⟩ := ext_of (below_trans hb7 (ext_below w3 u3))
            exact ⟨i + 1, u5, by omega, by go_num, by rw [any_take HSI.out, HNO.out, HT.out]; rfl, hu5⟩
          case measure => simp [intOf]; omega
    · obtain rfl : i = (mem 12 set).length := by omega
      have HT := Lib.hid (show acc a set x = false by have h := HNO.out; rw [List.take_length] at h; exact h)
      go_wp2_with fail
      go_ret
      exact ⟨by rw [HT.out]; rfl, below_trans hb2 (ext_below w1 u)⟩
end Go.Proofs.YtpbfdmfkmbdpkaaGreat

