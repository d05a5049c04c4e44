/- Parts of the proof, joined into one text: NthS, ShortS, WalksS, NthWS, SrchM, SrchP. -/
import Derived.Test.YtlhpcknpjdeebaaPartHJKBOMJJ
import Derived.Test.YtlhpcknpjdeebaaPartBEHCIADD
import Derived.Test.YtlhpcknpjdeebaaPartHCBNMMEI
import Derived.Test.YtlhpcknpjdeebaaPartDMDMHEEH
import Derived.Test.YtlhpcknpjdeebaaPartGMACDPJL
import Derived.Test.YtlhpcknpjdeebaaPartLAIGJDJG
/- The reference's l19Nth: walk number n out of the layers. -/
namespace Go.Proofs.Ytlhpcknpjdeebaa
set_option linter.unusedVariables false
set_option linter.unusedSimpArgs false
open Go.ChangeShapes Go.WideShapes Go.ChangeAt Go.RowKit
attribute [local go_sem] ext_cell ext_frozen ext_lt ext_lt1 ext_lt2 ext_lt3 ltn2 ltn3 ltn13 lts1 lts2 lts3

theorem RowR.pickF {g : Gr} {a : Au} {y : Int} {f x s : Nat} {N : List Key} {C : Nat → Nat} (hC : ∀ i k, N[i]? = some k → C i = cw g a y f k.1 k.2) {l : List Arc} {T : List (St × Nat)} (h : RowR g a x s N l T) :
    ∀ n, (Go.Proofs.Ytlhpcknpjdeebaa.pick (fun e : St × Nat => C e.2) T n = none ∧ Go.Proofs.Ytlhpcknpjdeebaa.pick (cwAt g a y f x s) l n = none) ∨
      ∃ p i n', Go.Proofs.Ytlhpcknpjdeebaa.pick (fun e : St × Nat => C e.2) T n = some ((p.1, i), n') ∧ Go.Proofs.Ytlhpcknpjdeebaa.pick (cwAt g a y f x s) l n = some (p, n') ∧ N[i]? = some (p.2.2.toNat, aft a s (valAt g x) p.2.1.toNat) ∧ p ∈ l := by
  induction h with
  | nil => intro n; exact .inl ⟨rfl, rfl⟩
  | @skip p0 l0 T0 h1 _ ih =>
    intro n
    have hz : ¬ n < cwAt g a y f x s p0 := by rw [cwAt, h1, cw_none]; omega
    have hz2 : n - cwAt g a y f x s p0 = n := by rw [cwAt, h1, cw_none]; omega
    rcases ih n with ⟨e1, e2⟩ | ⟨p, i, n', e1, e2, e3, e4⟩
    · exact .inl ⟨e1, by rw [Go.Proofs.Ytlhpcknpjdeebaa.pick, if_neg hz, hz2, e2]⟩
    · exact .inr ⟨p, i, n', e1, by rw [Go.Proofs.Ytlhpcknpjdeebaa.pick, if_neg hz, hz2, e2], e3, List.mem_cons_of_mem _ e4⟩
  | @take p l T i h1 h2 _ ih =>
    intro n
    have hc : C i = cwAt g a y f x s p := hC _ _ h2
    by_cases hn : n < cwAt g a y f x s p
    · exact .inr ⟨p, i, n, by rw [Go.Proofs.Ytlhpcknpjdeebaa.pick, if_pos (by rw [hc]; exact hn)], by rw [Go.Proofs.Ytlhpcknpjdeebaa.pick, if_pos hn], h2, List.mem_cons_self ..⟩
    · rcases ih (n - cwAt g a y f x s p) with ⟨e1, e2⟩ | ⟨p', i', n', e1, e2, e3, e4⟩
      · exact .inl ⟨by rw [Go.Proofs.Ytlhpcknpjdeebaa.pick, if_neg (by rw [hc]; exact hn)]; simp only [hc]; exact e1, by rw [Go.Proofs.Ytlhpcknpjdeebaa.pick, if_neg hn, e2]⟩
      · exact .inr ⟨p', i', n', by rw [Go.Proofs.Ytlhpcknpjdeebaa.pick, if_neg (by rw [hc]; exact hn)]; simp only [hc]; exact e1, by rw [Go.Proofs.Ytlhpcknpjdeebaa.pick, if_neg hn, e2], e3, List.mem_cons_of_mem _ e4⟩
theorem LaysV.rows {g : Gr} {a : Au} {y : Int} {k0 : Key} {n lo : Nat} {w : World} {v : Value} (h : LaysV g a y k0 n lo w v) : ∃ (b o c : Nat), v = .slice (some ⟨b, o, none⟩) (n + 1) c ∧ b < w.heap.size ∧ ∀ d, d ≤ n → ∃ (gd cd : Nat) (zs : List Zr), w.cell? ⟨b, o + d, none⟩ = some (.slice (some ⟨gd, 0, none⟩) (layN g a k0 d).length cd) ∧ LayV lo w.heap.size w gd cd (layN g a k0 d) (layC g a y k0 n d) (layTn g a k0 n d) zs := by
  obtain ⟨A, c, rfl, -, -, h⟩ := h
  obtain ⟨b, o, gd, cd, zs, rfl, hb, -, -⟩ := h 0 (Nat.zero_le _)
  refine ⟨b, o, c, rfl, hb, fun d hd => ?_⟩
  obtain ⟨b', o', gd', cd', zs', he, -, hc', hl'⟩ := h d hd
  injection he with he
  injection he with e1 e2
  subst e1 e2
  exact ⟨gd', cd', zs', hc', hl'⟩
/-- the row of a key: what is picked there, and what follows -/
theorem nthRow {g : Gr} {a : Au} {y : Int} {k0 : Key} {n d i m : Nat} {k : Key} (hk : (layN g a k0 d)[i]? = some k) (hd : d < n) (hm : m < cw g a y (n - d) k.1 k.2) :
    ∃ st i2 m2 k2, pick (fun e : St × Nat => layC g a y k0 n (d + 1) e.2) (layT g a k0 d i) m = some ((st, i2), m2) ∧ (layN g a k0 (d + 1))[i2]? = some k2 ∧ m2 < cw g a y (n - (d + 1)) k2.1 k2.2 ∧ nthL g a y (n - d) k.1 k.2 m = st :: nthL g a y (n - (d + 1)) k2.1 k2.2 m2 := by
  obtain ⟨f, hf⟩ : ∃ f, n - d = f + 1 := ⟨n - d - 1, by omega⟩
  have hf2 : n - (d + 1) = f := by omega
  rw [hf] at hm ⊢
  rw [hf2]
  obtain ⟨p, m2, e1, e2, e3⟩ := pick_cw hm
  rcases (layT_row hk).pickF (C := layC g a y k0 n (d + 1)) (y := y) (f := f) (fun j q hq => by rw [layC_at hq, hf2]) m with ⟨h1, h2⟩ | ⟨p', i2, m', h1, h2, h3, h4⟩
  · rw [e1] at h2; cases h2
  · rw [e1] at h2
    injection h2 with h2
    injection h2 with h2 h5
    subst h2 h5
    exact ⟨p.1, i2, m2, _, h1, h3, e2, nthL_succ e1⟩
set_option maxHeartbeats 8000000 in
set_option maxRecDepth 100000 in
theorem l19Nth_any (g : Gr) (a : Au) (y : Int) (k0 : Key) (n lo : Nat) (v : Value) (x m : Int) (w : World) (hl : LaysV g a y k0 n lo w v) (hgo : grOk g = true) (ha : auOk a = true) (hk0 : k0.1 < g.vals.length ∧ k0.2 < 2 ^ a.accept.length) (hn : n ≤ 60) :
    Calls Try.prog 38 #[v, .int .i64 x, .int .i64 m] w fun e w' => ∃ v', e = .returned (.tuple #[v', .bool (wi m 0 ((cw g a y n k0.1 k0.2 : Nat) - 1))]) ∧ WkO w.heap.size w'.heap.size w' v' (if wi m 0 ((cw g a y n k0.1 k0.2 : Nat) - 1) = true then (x, nthL g a y n k0.1 k0.2 m.toNat) else (0, [])) ∧ Below w.heap.size w w' := by
  obtain ⟨bL, oL, cL, rfl, lb, hrows⟩ := hl.rows
  have HLO := Lib.hid (fun d => (layN_ok (grOk_iff.1 hgo) ha hk0 d).len (grOk_iff.1 hgo) ha)
  obtain ⟨g0, cd0, zs0, r0, hl0⟩ := hrows 0 (Nat.zero_le _)
  obtain ⟨z, -, -, -, -, -, -, -, r2, -, -⟩ := hl0.get (i := 0) (k := k0) rfl
  rw [layC_at (i := 0) (k := k0) rfl, Nat.sub_zero] at r2
  have lg := hl0.lt
  replace r0 : w.cell? ⟨bL, oL, none⟩ = some (.slice (some ⟨g0, 0, none⟩) 1 cd0) := by simpa [layN] using r0
  replace r2 : w.cell? ⟨g0, 2, none⟩ = some (.int .i64 (cw g a y n k0.1 k0.2 : Nat)) := by simpa using r2
  obtain ⟨C, hC⟩ : ∃ C, C = cw g a y n k0.1 k0.2 := ⟨_, rfl⟩
  have hcle : C ≤ 1000000 := by rw [hC]; exact cw_le ..
  rw [← hC] at r2 ⊢
  have HC := Lib.hid hC
  have HROWS := Lib.hid hrows
  have HIN := Lib.hid (fun W => l1In_any m 0 ((C : Int) - 1) W)
  have hb0 : Below w.heap.size w (w.alloc (.cells #[.int .i64 0, .slice none 0 0] 34)) := (Below.refl _ _).alloc (Nat.le_refl _) _
  have hbR := Blk.new w 34 #[.int .i64 0, .slice none 0 0] w.heap.size rfl
  have HB0 := Lib.hid hb0
  have HBR := Lib.hid hbR
  have hn1 : (0 : Int) < (n : Int) + 1 := by omega
  obtain ⟨B, hB⟩ : ∃ B, B = wi m 0 ((C : Int) - 1) := ⟨_, rfl⟩
  obtain ⟨RR, hRR⟩ : ∃ RR : Wk, RR = if B = true then (x, nthL g a y n k0.1 k0.2 m.toNat) else (0, []) := ⟨_, rfl⟩
  rw [← hB] at HIN ⊢
  rw [← hRR]
  have HGO := Lib.hid hgo
  clear hl hl0 hrows hgo ha hk0 hC hb0 hbR
  cases B with
  | false =>
    have HF := Lib.hid (show RR = (0, []) from hRR)
    clear hRR hB
    have qc : IntKind.i64.wrap ((C : Int) - 1) = (C : Int) - 1 := IntWalk.i64_in _ (by omega)
    go_enter Try.func38, Try.ntmps38
    go_wp2_with fail
    clear qc
    refine (HIN.out _).mono ?_
    rintro e w9 ⟨rfl, hw9⟩
    rw [hw9]
    clear hw9
    have bR := HBR.out
    have q0 := bR.cell 0
    have q1 := bR.cell 1
    have fr0 := bR.frozen 0
    have fr1 := bR.frozen 1
    have lr := bR.lt
    clear bR
    go_wp2_with fail
    refine bodyPost_ret (v := .tuple #[.agg #[.int .i64 0, .slice none 0 0], .bool false]) (by simp [results, Try.results38, go_sem, q0, q1]) rfl ⟨_, rfl, ?_, HB0.out⟩
    rw [HF.out]
    exact ⟨_, rfl, Own.nil _ _ _ _ _ _⟩
  | true =>
    have hwi := wi_iff.1 hB.symm
    obtain ⟨m, rfl⟩ := Int.eq_ofNat_of_zero_le hwi.1
    have hm : m < C := by omega
    obtain ⟨SS, hSS⟩ : ∃ SS, SS = nthL g a y n k0.1 k0.2 m := ⟨_, rfl⟩
    have HF := Lib.hid (show RR = (x, SS) from by rw [hRR, if_pos rfl, hSS, Int.toNat_natCast])
    have HSS := Lib.hid hSS
    have HM := Lib.hid (show m < cw g a y n k0.1 k0.2 by rw [← HC.out]; exact hm)
    clear hRR hB hSS hwi
    have qc : IntKind.i64.wrap ((C : Int) - 1) = (C : Int) - 1 := IntWalk.i64_in _ (by omega)
    go_enter Try.func38, Try.ntmps38
    go_wp2_with fail
    clear qc
    refine (HIN.out _).mono ?_
    rintro e w9 ⟨rfl, hw9⟩
    rw [hw9]
    clear hw9
    go_wp2_with fail
    clear r0 r2
    have HB1 := Lib.hid (HB0.out.alloc (by simp) (.cells #[.int .i64 x, .slice none 0 0] 34))
    have HBR1 := Lib.hid (HBR.out.alloc (.cells #[.int .i64 x, .slice none 0 0] 34))
    have HBW1 := Lib.hid (Blk.new (w.alloc (.cells #[.int .i64 0, .slice none 0 0] 34)) 34 #[.int .i64 x, .slice none 0 0] (w.heap.size + 1) (by simp))
    go_wp2_with fail
    go_loopw [2, 9, 10] (fun nn aa dd wr => ∃ (d i n' : Nat) (k : Key) (O : List St) (oo : Value), nn = .int .i64 (n' : Int) ∧ aa = .int .i64 (i : Int) ∧ dd = .int .i64 (d : Int) ∧ d ≤ n ∧ (layN g a k0 d)[i]? = some k ∧ n' < cw g a y (n - d) k.1 k.2 ∧ O ++ nthL g a y (n - d) k.1 k.2 n' = SS ∧ O.length = d ∧
        Blk wr w.heap.size 34 #[.int .i64 0, .slice none 0 0] ∧ Blk wr (w.heap.size + 1) 34 #[.int .i64 x, oo] ∧ wr.ownsRow (w.heap.size + 1 + 1) 96 2 oo O.length (O.flatMap cSt) ∧ Below w.heap.size w wr) (fun _ _ dd _ => n - (intOf dd).toNat)
    case atStart => exact ⟨0, 0, m, k0, [], _, rfl, rfl, rfl, Nat.zero_le _, rfl, HM.out, HSS.out.symm, rfl, HBR1.out, HBW1.out, World.ownsRow_nil _ _ _ _, HB1.out⟩
    case round =>
      clear HB0 HBR HB1 HBR1 HBW1
      obtain ⟨d, i, n', k, O, oo, rfl, rfl, rfl, hd, hk, hn', hO, hOl, hbr, hbw, hrow, hbel⟩ := hrel
      have lw0 := hbr.lt
      have lw1 := hbw.lt
      have hszw := hbel.size
      by_cases hdn : d < n
      · obtain ⟨st, i2, n2, k2, hp, hk2, hn2, hO2⟩ := nthRow hk hdn hn'
        obtain ⟨gd, cd, zs, h0, hld⟩ := HROWS.out d hd
        obtain ⟨gd1, cd1, zs1, h1, hl1⟩ := HROWS.out (d + 1) hdn
        obtain ⟨z, hz, hz1, hz2, hz3, hz4, d0, d1, d2, d3, d4⟩ := hld.get hk
        rw [layTn_lt hdn] at hz4
        have hTin := (layT_row hk).to_lt
        have hTl := Nat.le_trans (layT_row hk).len (arcs_len (grOk_iff.1 HGO.out) _)
        obtain ⟨F, hF⟩ : ∃ F : Nat → Nat, F = layC g a y k0 n (d + 1) := ⟨_, rfl⟩
        obtain ⟨TT, hTT⟩ : ∃ TT, TT = layT g a k0 d i := ⟨_, rfl⟩
        rw [← hF] at hp hl1
        rw [← hTT] at hp hz4 hTin hTl
        have hFle : ∀ j, F j ≤ 1000000 := fun j => by rw [hF]; exact layC_le ..
        have hn'l : n' ≤ 1000000 := by have := cw_le g a y (n - d) k.1 k.2; omega
        have hosv := hz4.1
        have hotv := hz4.2
        have hil := (List.getElem?_eq_some_iff.1 hk).1
        have hl20 := HLO.out d
        have hl21 := HLO.out (d + 1)
        obtain ⟨L0, hL0⟩ : ∃ L0, L0 = (layN g a k0 d).length := ⟨_, rfl⟩
        obtain ⟨L1, hL1⟩ : ∃ L1, L1 = (layN g a k0 (d + 1)).length := ⟨_, rfl⟩
        rw [← hL0] at h0 hil hl20
        rw [← hL1] at h1 hTin hl21
        have HL1 := Lib.hid hl1
        have HL1E := Lib.hid hL1
        have HO2 := Lib.hid (show (O ++ [st]) ++ nthL g a y (n - (d + 1)) k2.1 k2.2 n2 = SS by rw [← hO, hO2, List.append_assoc]; rfl)
        have HK2 := Lib.hid hk2
        have HN2 := Lib.hid hn2
        have HP := Lib.hid hp
        have HTIN := Lib.hid hTin
        have HFLE := Lib.hid hFle
        clear hz hz1 hz2 hz3 hz4 hl1 hL0 hL1 hF hTT hp hk2 hn2 hO2 hTin hFle hk hO hn'
        obtain ⟨z0, z1, z2, sv, tv⟩ := z
        simp only at d3 d4 hosv hotv
        obtain ⟨As, cs, rfl, hls, hms, hCs⟩ := hosv.form cSt_len
        obtain ⟨At, ct, rfl, hlt1, hmt, hCt⟩ := hotv.form cN_len
        rw [List.length_map] at hls hosv hlt1 hotv d3 d4
        have HCS := Lib.hid hCs
        have HCT := Lib.hid hCt
        have hgd := hld.lt
        have h0 := kcell hbel h0
        have d0 := kcell hbel d0
        have d1 := kcell hbel d1
        have d2 := kcell hbel d2
        have d3 := kcell hbel d3
        have d4 := kcell hbel d4
        have HH1 := Lib.hid h1
        clear hCs hCt hosv hotv hld h1
        have hd1 : (d : Int) < (n : Int) + 1 := by omega
        have hdn2 : (d : Int) < (n : Int) := by omega
        have hii : (i : Int) < (L0 : Int) := by omega
        obtain ⟨wo, hwo⟩ : ∃ wo : World, wo = wr := ⟨_, rfl⟩
        rw [← hwo] at hbr hbw hrow hbel lw0 lw1 hszw h0 d0 d1 d2 d3 d4 ⊢
        clear hwo
        have HBR := Lib.hid hbr
        have HBW := Lib.hid hbw
        have HROW := Lib.hid hrow
        have HBEL := Lib.hid hbel
        clear hbr hbw hrow hbel
        go_wp2_with fail
        obtain ⟨wz, hwz⟩ : ∃ wz, wz = wo.alloc (.cells #[.int .i64 (k.1 : Int), .int .i64 (k.2 : Int), .int .i64 (layC g a y k0 n d i : Int), .slice As TT.length cs, .slice At TT.length ct] 72) := ⟨_, rfl⟩
        have hbz : Blk wz wo.heap.size 72 #[.int .i64 (k.1 : Int), .int .i64 (k.2 : Int), .int .i64 (layC g a y k0 n d i : Int), .slice As TT.length cs, .slice At TT.length ct] := by rw [hwz]; exact Blk.new _ _ _ _ rfl
        have hbY : Below wo.heap.size wo wz := by rw [hwz]; exact (Below.refl _ _).alloc (Nat.le_refl _) _
        rw [← hwz]
        have hrl := HROW.out.lt
        have HRL := Lib.hid hrl
        have HBZ := Lib.hid hbz
        have HBY := Lib.hid hbY
        have hszz := hbz.lt
        clear hwz hbz hbY hrl h0 d0 d1 d2 d3 d4
        go_loopw [2, 9, 12, 13] (fun nn aa bb kk wi => ∃ (j m1 a1 : Nat) (b : Bool) (O1 : List St) (o1 : Value), nn = .int .i64 (m1 : Int) ∧ aa = .int .i64 (a1 : Int) ∧ bb = .bool b ∧ kk = .int .i64 (j : Int) ∧ j ≤ TT.length ∧
            Blk wi wo.heap.size 72 #[.int .i64 (k.1 : Int), .int .i64 (k.2 : Int), .int .i64 (layC g a y k0 n d i : Int), .slice As TT.length cs, .slice At TT.length ct] ∧ Blk wi w.heap.size 34 #[.int .i64 0, .slice none 0 0] ∧ Blk wi (w.heap.size + 1) 34 #[.int .i64 x, o1] ∧ wi.ownsRow (w.heap.size + 1 + 1) 96 2 o1 O1.length (O1.flatMap cSt) ∧ Below w.heap.size w wi ∧
            (b = false → O1 = O ∧ a1 = i ∧ o1 = oo ∧ m1 = leftN (fun e : St × Nat => F e.2) (TT.take j) n' ∧ ∀ r q, r < j → TT[r]? = some q → ¬ leftN (fun e : St × Nat => F e.2) (TT.take r) n' < F q.2) ∧
            (b = true → m1 = n2 ∧ a1 = i2 ∧ O1 = O ++ [st])) (fun _ _ _ kk _ => TT.length - (intOf kk).toNat)
        case atStart => exact ⟨0, n', i, false, O, oo, rfl, rfl, rfl, rfl, Nat.zero_le _, HBZ.out, HBR.out.keep HBY.out, HBW.out.keep HBY.out, ownsRow_block HROW.out (fun b hb => HBY.out.block b (HRL.out b hb).2), HBEL.out.trans (HBY.out.mono hszw), fun _ => ⟨rfl, rfl, rfl, rfl, fun r q hr => by omega⟩, fun h => by cases h⟩
        case round =>
          clear HBR HBW HBZ HBY HBEL HROW
          obtain ⟨j, m1, a1, b, O1, o1, rfl, rfl, rfl, rfl, hj, hbz, hbr, hbw, hrow, hbel, hno, hyes⟩ := hrel
          have c4 : wr.cell? ⟨wo.heap.size, 4, none⟩ = some (.slice At TT.length ct) := hbz.cell 4
          have HBZ := Lib.hid hbz
          have HBR := Lib.hid hbr
          have HBW := Lib.hid hbw
          have HROW := Lib.hid hrow
          have HBEL := Lib.hid hbel
          cases b with
          | true =>
            obtain ⟨rfl, rfl, rfl⟩ := hyes rfl
            clear hno hyes hbz hbr hbw hrow hbel
            by_cases hlj : j < TT.length
            · have hjj : (j : Int) < (TT.length : Int) := by omega
              go_wp2_with fail
              go_roundw
              case rel => exact ⟨d + 1, a1, m1, k2, O ++ [st], o1, rfl, rfl, by go_num, by omega, HK2.out, HN2.out, HO2.out, by simp; omega, HBR.out, HBW.out, HROW.out, HBEL.out⟩
              case measure => simp [intOf]; omega
            · have hjj : ¬ (j : Int) < (TT.length : Int) := by omega
              go_wp2_with fail
              go_roundw
              case rel => exact ⟨d + 1, a1, m1, k2, O ++ [st], o1, rfl, rfl, by go_num, by omega, HK2.out, HN2.out, HO2.out, by simp; omega, HBR.out, HBW.out, HROW.out, HBEL.out⟩
              case measure => simp [intOf]; omega
          | false =>
            have hno2 := hno rfl
            clear hno
            obtain ⟨rfl, rfl, rfl, rfl, hno⟩ := hno2
            by_cases hlj : j < TT.length
            · have hej : TT[j]? = some TT[j] := List.getElem?_eq_getElem hlj
              have hin := HTIN.out _ (List.getElem_mem hlj)
              generalize TT[j] = e at hej hin
              obtain ⟨⟨sid, sinv⟩, e2⟩ := e
              simp only at hin
              obtain ⟨b8, o8, rfl, hb8, t0⟩ := HCT.out.nat (i := j) (x := e2) (by rw [List.getElem?_map, hej]; rfl)
              obtain ⟨b9, o9, rfl, hb9, s0, s1⟩ := HCS.out.st (i := j) (e := (sid, sinv)) (by rw [List.getElem?_map, hej]; rfl)
              have hk1 : (layN g a k0 (d + 1))[e2]? = some (layN g a k0 (d + 1))[e2] := List.getElem?_eq_getElem (by rw [← HL1E.out]; exact hin)
              obtain ⟨zq, -, -, -, -, -, -, -, r2, -, -⟩ := HL1.out.get hk1
              have t0 := kcell hbel t0
              have s0 := kcell hbel s0
              have s1 := kcell hbel s1
              have r2 := kcell hbel r2
              have h1 := kcell hbel HH1.out
              have hC1 := HFLE.out e2
              have HPH := Lib.hid (fun h => (HP.out.symm.trans (pick_here (k := fun e : St × Nat => F e.2) hej hno h)))
              have HLS := Lib.hid (leftN_succ (k := fun e : St × Nat => F e.2) (n := n') hej)
              have hll := leftN_le (fun e : St × Nat => F e.2) (TT.take j) n'
              have HNO := Lib.hid (fun (h : ¬ leftN (fun e : St × Nat => F e.2) (TT.take j) n' < F e2) r q (hr : r < j + 1) (hq : TT[r]? = some q) => show ¬ leftN (fun e : St × Nat => F e.2) (TT.take r) n' < F q.2 from by
                rcases Nat.lt_or_ge r j with h1 | h1
                · exact hno r q h1 hq
                · obtain rfl : r = j := by omega
                  rw [hej] at hq
                  injection hq with hq
                  rw [← hq]; exact h)
              obtain ⟨D1, hD1⟩ : ∃ D1, D1 = d + 1 := ⟨_, rfl⟩
              rw [← hD1] at h1
              have hq1 : (D1 : Int) < (n : Int) + 1 := by omega
              have hqz : (d : Int) + 1 = (D1 : Int) := by omega
              have hjj : (j : Int) < (TT.length : Int) := by omega
              have hee : (e2 : Int) < (L1 : Int) := by omega
              obtain ⟨M1, hM1⟩ : ∃ M1, M1 = leftN (fun e : St × Nat => F e.2) (TT.take j) n' := ⟨_, rfl⟩
              rw [← hM1] at HPH HLS HNO hll ⊢
              have HM1 := Lib.hid hM1
              obtain ⟨C1, hC1e⟩ : ∃ C1, C1 = F e2 := ⟨_, rfl⟩
              have HC1 := Lib.hid hC1e
              rw [← hC1e] at r2 hC1 HNO
              have HLS2 := Lib.hid (show leftN (fun e : St × Nat => F e.2) (TT.take (j + 1)) n' = M1 - C1 by rw [HLS.out, hC1e])
              have HPH2 := Lib.hid (fun (h : M1 < C1) => HPH.out (by show M1 < F e2; rw [← hC1e]; exact h))
              clear hno hej hk1 hyes hM1 hC1e HLS HPH
              obtain ⟨wq, hwq⟩ : ∃ wq : World, wq = wr := ⟨_, rfl⟩
              rw [← hwq] at HBZ HBR HBW HROW HBEL hbz hbr hbw hrow hbel c4 t0 s0 s1 r2 h1 ⊢
              clear hwq
              have lq1 : bL < wq.heap.size := World.block_lt_of_cell? _ _ h1
              have lq2 : wo.heap.size < wq.heap.size := World.block_lt_of_cell? _ _ c4
              have lq3 : b8 < wq.heap.size := World.block_lt_of_cell? _ _ t0
              have lq4 : gd1 < wq.heap.size := World.block_lt_of_cell? _ _ r2
              have qw : IntKind.i64.wrap ((d : Int) + 1) = (D1 : Int) := by rw [IntWalk.i64_in _ (by omega), hqz]
              clear hD1 hqz
              go_upto_region 13 with fail
              refine wp_region_ext_lit (by kernel_rfl) (by kernel_rfl) ?_
              repeat (go_big_quiet_step (fail))
              refine wpQuiet_nil ?_
              intro _ hw'
              obtain ⟨u2, hw''⟩ := hw'
              subst hw''
              clear qw
              have hbU := ext_below wq u2
              by_cases hpk : M1 < C1
              · have hpki : (M1 : Int) < (C1 : Int) := by omega
                have hpe := HPH2.out hpk
                injection hpe with hpe
                injection hpe with hp1 hp2
                injection hp1 with hp3 hp4
                obtain ⟨A9, n9, c9, ho1⟩ := (Own.of_row (xs := O1) hrow rfl rfl).shape
                subst ho1
                have hrl : ∀ b, (Value.slice A9 n9 c9).ownBlock = some b → w.heap.size + 1 + 1 ≤ b ∧ b < wo.heap.size := HRL.out
                have v1 : wq.cell? ⟨w.heap.size + 1, 1, none⟩ = some (.slice A9 n9 c9) := hbw.cell 1
                have c3 : wq.cell? ⟨wo.heap.size, 3, none⟩ = some (.slice (some ⟨b9, o9, none⟩) TT.length cs) := hbz.cell 3
                obtain ⟨wx, hwx⟩ : ∃ wx, wx = ext wq u2 := ⟨_, rfl⟩
                rw [← hwx] at hbU ⊢
                have v1 := kcell hbU v1
                have c3 := kcell hbU c3
                have c4 := kcell hbU c4
                have t0 := kcell hbU t0
                have s0 := kcell hbU s0
                have s1 := kcell hbU s1
                have HBZ := Lib.hid (hbz.keep hbU)
                have HBR := Lib.hid (hbr.keep hbU)
                have HBW := Lib.hid (hbw.keep hbU)
                have HROW := Lib.hid (ownsRow_block hrow (fun b hb => hbU.block b (hrow.lt b hb).2))
                have HBEL := Lib.hid (below_trans hbel hbU)
                have HT0 := Lib.hid t0
                have HR2 := Lib.hid hrl
                have hsx := hbU.size
                have hOl60 : O1.length ≤ 60 := by omega
                clear hwx hbz hbr hbw hrow hbel hbU t0 r2 h1 c4 hrl hOl
                go_upto_region 15 with fail
                refine F_start 10 (fun w' => w'.cell? ⟨w.heap.size + 1, 1, none⟩ = some (.slice A9 n9 c9) ∧ w'.cell? ⟨wo.heap.size, 3, none⟩ = some (.slice (some ⟨b9, o9, none⟩) TT.length cs) ∧ w'.cell? ⟨b9, o9 + j * 2, none⟩ = some (.int .i64 sid) ∧ w'.cell? ⟨b9, o9 + j * 2 + 1, none⟩ = some (.bool sinv)) (by kernel_rfl) (by exact ⟨v1, c3, s0, s1⟩) (fun hS inv => ?_)
                refine F_take (i := 0) (v := ?_) rfl (by kernel_rfl) (by kernel_rfl) (by kernel_rfl) (fun _ _ _ h => h) inv (Or.inl ⟨by rfl, ?_⟩) (by assumption) (fun invn => ?_)
                rotate_left
                · (intro w hSw; (try dsimp only at hSw); go_simp; try with_reducible rfl)
                try simp only [List.getElem_toArray, List.getElem_cons_zero, List.getElem_cons_succ, Act.put, List.setIfInBounds_toArray, List.set_cons_zero, List.set_cons_succ]
                clear inv
                have inv := invn
                clear invn
                refine F_take (i := 1) (v := ?_) rfl (by kernel_rfl) (by kernel_rfl) (by kernel_rfl) (fun _ _ _ h => h) inv (Or.inl ⟨by rfl, ?_⟩) (by assumption) (fun invn => ?_)
                rotate_left
                · (intro w hSw; (try dsimp only at hSw); go_simp; try with_reducible rfl)
                try simp only [List.getElem_toArray, List.getElem_cons_zero, List.getElem_cons_succ, Act.put, List.setIfInBounds_toArray, List.set_cons_zero, List.set_cons_succ]
                clear inv
                have inv := invn
                clear invn
                refine F_take (i := 2) (v := ?_) rfl (by kernel_rfl) (by kernel_rfl) (by kernel_rfl) (fun _ _ _ h => h) inv (Or.inl ⟨by rfl, ?_⟩) (by assumption) (fun invn => ?_)
                rotate_left
                · (intro w hSw; (try dsimp only at hSw); go_simp; try with_reducible rfl)
                try simp only [List.getElem_toArray, List.getElem_cons_zero, List.getElem_cons_succ, Act.put, List.setIfInBounds_toArray, List.set_cons_zero, List.set_cons_succ]
                clear inv
                have inv := invn
                clear invn
                refine F_take (i := 3) (v := ?_) rfl (by kernel_rfl) (by kernel_rfl) (by kernel_rfl) (fun _ _ _ h => h) inv (Or.inl ⟨by rfl, ?_⟩) (by assumption) (fun invn => ?_)
                rotate_left
                · (intro w hSw; (try dsimp only at hSw); go_simp; try with_reducible rfl)
                try simp only [List.getElem_toArray, List.getElem_cons_zero, List.getElem_cons_succ, Act.put, List.setIfInBounds_toArray, List.set_cons_zero, List.set_cons_succ]
                clear inv
                have inv := invn
                clear invn
                refine F_take (i := 4) (v := ?_) rfl (by kernel_rfl) (by kernel_rfl) (by kernel_rfl) (fun _ _ _ h => h) inv (Or.inl ⟨by rfl, ?_⟩) (by assumption) (fun invn => ?_)
                rotate_left
                · (intro w hSw; (try dsimp only at hSw); go_simp; try with_reducible rfl)
                try simp only [List.getElem_toArray, List.getElem_cons_zero, List.getElem_cons_succ, Act.put, List.setIfInBounds_toArray, List.set_cons_zero, List.set_cons_succ]
                clear inv
                have inv := invn
                clear invn
                refine F_take (i := 5) (v := ?_) rfl (by kernel_rfl) (by kernel_rfl) (by kernel_rfl) (fun _ _ _ h => h) inv (Or.inl ⟨by rfl, ?_⟩) (by assumption) (fun invn => ?_)
                rotate_left
                · (intro w hSw; (try dsimp only at hSw); go_simp; try with_reducible rfl)
                try simp only [List.getElem_toArray, List.getElem_cons_zero, List.getElem_cons_succ, Act.put, List.setIfInBounds_toArray, List.set_cons_zero, List.set_cons_succ]
                clear inv
                have inv := invn
                clear invn
                refine F_take (i := 6) (v := ?_) rfl (by kernel_rfl) (by kernel_rfl) (by kernel_rfl) (fun _ _ _ h => h) inv (Or.inl ⟨by rfl, ?_⟩) (by assumption) (fun invn => ?_)
                rotate_left
                · (intro w hSw; (try dsimp only at hSw); go_simp; try with_reducible rfl)
                try simp only [List.getElem_toArray, List.getElem_cons_zero, List.getElem_cons_succ, Act.put, List.setIfInBounds_toArray, List.set_cons_zero, List.set_cons_succ]
                clear inv
                have inv := invn
                clear invn
                refine F_one (i := 7) (by kernel_rfl) rfl rfl (by omega) inv (fun K hK => ?_)
                try simp only [List.getElem_toArray, List.getElem_cons_zero, List.getElem_cons_succ]
                go_simp
                refine hK.out _ _ (kA4 _ hS) (fun hSn invn => ?_)
                try simp only [List.getElem_toArray, List.getElem_cons_zero, List.getElem_cons_succ, Act.put, List.setIfInBounds_toArray, List.set_cons_zero, List.set_cons_succ]
                clear hK K inv hS
                have inv := invn
                have hS := hSn
                clear invn hSn
                refine F_one (i := 8) (by kernel_rfl) rfl rfl (by omega) inv (fun K hK => ?_)
                try simp only [List.getElem_toArray, List.getElem_cons_zero, List.getElem_cons_succ]
                refine op_append1 cSt elStL rfl _ _ (by rfl) (w.heap.size + 1 + 1) (.slice A9 n9 c9) O1 (sid, sinv) 1 _ (by rfl) (show ((wx.alloc (.cells #[.int .i64 sid, .bool sinv] 96)).drew).ownsRow (w.heap.size + 1 + 1) 96 2 (.slice A9 n9 c9) O1.length (O1.flatMap cSt) from HROW.out.alloc _) (by first | rfl | simp) (heap_alloc_new _ _) rfl (cSt_one _) (by omega) (by omega) (by simp; omega) ?_
                intro g2 cp2 w3 hown3 hgr3 hat3 hlt3
                have hrl := HR2.out
                have g3 : ∀ b, b < wx.heap.size → (Value.slice A9 n9 c9).ownBlock ≠ some b → w3.heap[b]? = wx.heap[b]? := fun b hb hn => (hgr3.block b (by simp; omega) (fun e => hn e.symm)).trans (Below.heap_alloc wx _ b hb)
                have hs3 : wx.heap.size < w3.heap.size := by have := hgr3.size; simp at this; omega
                have nz : (Value.slice A9 n9 c9).ownBlock ≠ some wo.heap.size := fun e => by have := hrl _ e; omega
                have nr : (Value.slice A9 n9 c9).ownBlock ≠ some w.heap.size := fun e => by have := hrl _ e; omega
                have nw : (Value.slice A9 n9 c9).ownBlock ≠ some (w.heap.size + 1) := fun e => by have := hrl _ e; omega
                have n8 : (Value.slice A9 n9 c9).ownBlock ≠ some b8 := fun e => by have := hrl _ e; omega
                have hbz3 := (g3 wo.heap.size (by omega) nz).trans HBZ.out
                have hbr3 := (g3 w.heap.size (by omega) nr).trans HBR.out
                have hbw3 : Blk w3 (w.heap.size + 1) 34 #[.int .i64 x, .slice A9 n9 c9] := (g3 (w.heap.size + 1) (by omega) nw).trans HBW.out
                have v1' : w3.cell? ⟨w.heap.size + 1, 1, none⟩ = some (.slice A9 n9 c9) := hbw3.cell 1
                have f1' := hbw3.frozen 1
                have l1' := hbw3.lt
                refine hK.out _ _ (⟨hgr3.cell hS.1 (fun e => by have := hrl _ e.symm; simp only at this; omega), hgr3.cell hS.2.1 (fun e => by have := hrl _ e.symm; simp only at this; omega), hgr3.cell hS.2.2.1 (fun e => by have := hrl _ e.symm; simp only at this; omega), hgr3.cell hS.2.2.2 (fun e => by have := hrl _ e.symm; simp only at this; omega)⟩) (fun hSn invn => ?_)
                try simp only [List.getElem_toArray, List.getElem_cons_zero, List.getElem_cons_succ, Act.put, List.setIfInBounds_toArray, List.set_cons_zero, List.set_cons_succ]
                clear hK K inv hS
                have inv := invn
                have hS := hSn
                clear invn hSn
                refine F_take (i := 9) (v := ?_) rfl (by kernel_rfl) (by kernel_rfl) (by kernel_rfl) (fun _ _ _ h => h) inv (Or.inl ⟨by rfl, ?_⟩) (by assumption) (fun invn => ?_)
                rotate_left
                · (intro w hSw; (try dsimp only at hSw); go_simp; try with_reducible rfl)
                try simp only [List.getElem_toArray, List.getElem_cons_zero, List.getElem_cons_succ, Act.put, List.setIfInBounds_toArray, List.set_cons_zero, List.set_cons_succ]
                clear inv
                have inv := invn
                clear invn
                refine F_last (i := 10) (by kernel_rfl) rfl rfl (by omega) (by kernel_rfl) (fun K hK => ?_)
                go_simp
                refine hK _ _ ?_
                clear hK K inv hS
                obtain ⟨w4, hw4⟩ : ∃ w4, w4 = w3.setCell ⟨w.heap.size + 1, 1, none⟩ (.slice (some ⟨g2, 0, none⟩) (O1.length + 1) cp2) := ⟨_, rfl⟩
                have hs4w : w3.heap.size = w4.heap.size := by rw [hw4]; simp [World.setCell]
                have g4 : ∀ b, b < w3.heap.size → b ≠ w.heap.size + 1 → w4.heap[b]? = w3.heap[b]? := fun b hb hne => by rw [hw4]; exact Below.heap_setCell w3 ⟨w.heap.size + 1, 1, none⟩ _ b hne
                have hbz4 : Blk w4 wo.heap.size 72 #[.int .i64 (k.1 : Int), .int .i64 (k.2 : Int), .int .i64 (layC g a y k0 n d a1 : Int), .slice (some ⟨b9, o9, none⟩) TT.length cs, .slice (some ⟨b8, o8, none⟩) TT.length ct] := (g4 _ (by omega) (by omega)).trans hbz3
                have hbr4 : Blk w4 w.heap.size 34 #[.int .i64 0, .slice none 0 0] := (g4 _ (by omega) (by omega)).trans hbr3
                have hbw4 : Blk w4 (w.heap.size + 1) 34 #[.int .i64 x, .slice (some ⟨g2, 0, none⟩) (O1.length + 1) cp2] := by
                  have h := hbw3.set_ 1 (.slice (some ⟨g2, 0, none⟩) (O1.length + 1) cp2)
                  rw [← hw4] at h
                  simpa using h
                have hg2 : g2 ≠ w.heap.size + 1 := by
                  rcases hat3 with h | h
                  · have := hrl g2 h; omega
                  · simp at h; omega
                have hrow4 := ownsRow_block (w' := w4) hown3 (fun b hb => by
                  have he : g2 = b := by simpa [Value.ownBlock] using hb
                  exact g4 b (by omega) (by rw [← he]; exact hg2))
                have hbl4 : Below w.heap.size w w4 := by
                  rw [hw4]
                  have h1 : Below w.heap.size w ((wx.alloc (.cells #[.int .i64 sid, .bool sinv] 96)).drew) := (HBEL.out.alloc (by omega) _).drew
                  exact (h1.grown hgr3 (by simp; omega) (fun b hb => by have := hrl b hb; omega)).setCell (by simp only; omega) _
                have t4 : w4.cell? ⟨b8, o8 + j, none⟩ = some (.int .i64 (e2 : Int)) := (World.cell?_of_block (a := ⟨b8, o8 + j, none⟩) ((g4 b8 (by omega) (by omega)).trans (g3 b8 (by omega) n8))).trans HT0.out
                have c4 : w4.cell? ⟨wo.heap.size, 4, none⟩ = some (.slice (some ⟨b8, o8, none⟩) TT.length ct) := hbz4.cell 4
                have HBZ4 := Lib.hid hbz4
                have HBR4 := Lib.hid hbr4
                have HBW4 := Lib.hid hbw4
                have HROW4 := Lib.hid hrow4
                have HBL4 := Lib.hid hbl4
                have HPS := Lib.hid (And.intro hp2.symm (And.intro hp4.symm hp3))
                rw [← hw4]
                clear hw4 hbz4 hbr4 hbw4 hrow4 hbl4 g4 g3 hbz3 hbr3 hbw3 v1' f1' l1' hown3 hgr3 hat3 hlt3 hrl nz nr nw n8 hp2 hp4 hp3 v1 c3 s0 s1
                go_wp2_with fail
                go_roundw
                case rel => exact ⟨j + 1, M1, e2, true, O1 ++ [(sid, sinv)], _, rfl, rfl, rfl, by go_num, by omega, HBZ4.out, HBR4.out, HBW4.out, HROW4.out, HBL4.out, (fun h => by cases h), fun _ => ⟨HPS.out.1, HPS.out.2.1, by rw [HPS.out.2.2]⟩⟩
                case measure => simp [intOf]; omega
              · have hpki : ¬ (M1 : Int) < (C1 : Int) := by omega
                have HNO2 := Lib.hid (HNO.out hpk)
                have hsub : (M1 : Int) - (C1 : Int) = ((M1 - C1 : Nat) : Int) := by omega
                have qs : IntKind.i64.wrap ((M1 : Int) - (C1 : Int)) = ((M1 - C1 : Nat) : Int) := by rw [IntWalk.i64_in _ (by omega)]; omega
                clear hbz hbr hbw hrow hbel t0 s0 s1 r2 h1 c4
                go_wp2_with fail
                clear qs
                go_roundw
                case rel =>
                  exact ⟨j + 1, M1 - C1, a1, false, O1, o1, by first | rfl | rw [hsub], rfl, rfl, by go_num, by omega, HBZ.out.keep hbU, HBR.out.keep hbU, HBW.out.keep hbU, ownsRow_block HROW.out (fun b hb => hbU.block b (HROW.out.lt b hb).2), below_trans HBEL.out hbU, fun _ => ⟨rfl, rfl, rfl, HLS2.out.symm, fun r q hr hq => HNO2.out r q hr hq⟩, fun h => by cases h⟩
                case measure => simp [intOf]; omega
            · obtain rfl : j = TT.length := by omega
              have hx := pick_end (k := fun e : St × Nat => F e.2) (n := n') hno
              rw [HP.out] at hx
              cases hx
      · obtain rfl : d = n := by omega
        rw [Nat.sub_self] at hO
        have hOe : O = SS := by rw [← hO]; simp [nthL]
        have hown := Own.of_row (xs := O) hrow rfl rfl
        rw [hOe] at hown
        obtain ⟨A9, n9, c9, rfl⟩ := hown.shape
        have HOW := Lib.hid hown
        have w0 : wr.cell? ⟨w.heap.size + 1, 0, none⟩ = some (.int .i64 x) := hbw.cell 0
        have w1 : wr.cell? ⟨w.heap.size + 1, 1, none⟩ = some (.slice A9 n9 c9) := hbw.cell 1
        have q0 : ((wr.setCell ⟨w.heap.size, 0, none⟩ (.int .i64 x)).setCell ⟨w.heap.size, 1, none⟩ (.slice A9 n9 c9)).cell? ⟨w.heap.size, 0, none⟩ = some (.int .i64 x) := by simpa using ((hbr.set_ 0 (.int .i64 x)).set_ 1 (.slice A9 n9 c9)).cell 0
        have q1 : ((wr.setCell ⟨w.heap.size, 0, none⟩ (.int .i64 x)).setCell ⟨w.heap.size, 1, none⟩ (.slice A9 n9 c9)).cell? ⟨w.heap.size, 1, none⟩ = some (.slice A9 n9 c9) := by simpa using ((hbr.set_ 0 (.int .i64 x)).set_ 1 (.slice A9 n9 c9)).cell 1
        have fr0 := hbr.frozen 0
        have fr1 := hbr.frozen 1
        have q2 : (wr.setCell ⟨w.heap.size, 0, none⟩ (.int .i64 x)).cell? ⟨w.heap.size, 0, none⟩ = some (.int .i64 x) := by simpa using (hbr.set_ 0 (.int .i64 x)).cell 0
        have HQ := Lib.hid (And.intro q0 (And.intro q1 q2))
        clear q0 q1 q2
        have q0 : wr.cell? ⟨w.heap.size, 0, none⟩ = some (.int .i64 0) := hbr.cell 0
        have q1 : wr.cell? ⟨w.heap.size, 1, none⟩ = some (.slice none 0 0) := hbr.cell 1
        have HBEL := Lib.hid hbel
        have hbn : ∀ b, b ≠ w.heap.size → ((wr.setCell ⟨w.heap.size, 0, none⟩ (.int .i64 x)).setCell ⟨w.heap.size, 1, none⟩ (.slice A9 n9 c9)).heap[b]? = wr.heap[b]? := fun b hb => by rw [Below.heap_setCell _ _ _ _ hb, Below.heap_setCell _ _ _ _ hb]
        have HBN := Lib.hid hbn
        have hdd : ¬ (d : Int) < (d : Int) := by omega
        clear hO hOe hown hbr hbw hrow hbel hbn hk hn'
        go_wp2_with fail
        have HBS := Lib.hid ((HBEL.out.setCell (p := ⟨w.heap.size, 0, none⟩) (by simp only; omega) (.int .i64 x)).setCell (p := ⟨w.heap.size, 1, none⟩) (by simp only; omega) (.slice A9 n9 c9))
        obtain ⟨hq0, hq1, hq2⟩ := HQ.out
        have hwes : ((wr.setCell ⟨w.heap.size, 0, none⟩ (.int .i64 x)).setCell ⟨w.heap.size, 1, none⟩ (.slice A9 n9 c9)).heap.size = wr.heap.size := by simp [World.setCell]
        refine bodyPost_ret (v := .tuple #[.agg #[.int .i64 x, .slice A9 n9 c9], .bool true]) (by simp [results, Try.results38, go_sem, hq0, hq1, hq2]) rfl ⟨_, rfl, ?_, HBS.out⟩
        rw [HF.out]
        exact ⟨_, rfl, (HOW.out.blocks (fun b hb => HBN.out b (by have := HOW.out.lt b hb; omega))).mono (by omega) (by omega)⟩
end Go.Proofs.Ytlhpcknpjdeebaa

/- The reference's ShortestLength. -/
namespace Go.Proofs.Ytlhpcknpjdeebaa
set_option linter.unusedVariables false
set_option linter.unusedSimpArgs false
open Go.ChangeShapes Go.WideShapes Go.ChangeAt Go.RowKit
attribute [local go_sem] ext_cell ext_frozen ext_lt ext_lt1 ext_lt2 ext_lt3 ltn2 ltn3 ltn13 lts1 lts2 lts3

theorem goodB0 (g : Gr) (a : Au) (x : Int) : goodB g a x 0 = (grOk g && (auOk a && wi x 0 ((g.vals.length : Int) - 1))) := by
  unfold goodB
  cases h : auOk a with
  | false => simp
  | true =>
    have h1 := (auOk_iff.1 h).1.1
    have h2 : wi 0 0 ((a.accept.length : Int) - 1) = true := wi_iff.2 (by omega)
    rw [h2]
    simp
set_option maxHeartbeats 4000000 in
set_option maxRecDepth 100000 in
theorem specShortestLength (vg va : Value) (g : Gr) (a : Au) (x y : Int) (w : World) (hgv : GrV 0 w.heap.size w vg g) (hav : AuV 0 w.heap.size w va a) :
    Calls Try.prog 35 #[vg, va, .int .i64 x, .int .i64 y] w fun e w' => e = .returned (.int .i64 (shortLen g a x y)) ∧ Below w.heap.size w w' := by
  have hgv0 := hgv
  have hav0 := hav
  obtain ⟨A1, n1, c1, A2, n2, c2, rfl⟩ := hgv.shape
  obtain ⟨ac, nx, rfl, hac, hnx⟩ := hav
  obtain ⟨A3, c3, rfl, -, -, -⟩ := SlE.form hac
  obtain ⟨A4, n4, c4, rfl⟩ := hnx.shape
  have hb0 : Below w.heap.size w ((w.alloc (.cells #[.slice A1 n1 c1, .slice A2 n2 c2] 39)).alloc (.cells #[.int .i64 a.start, .slice A3 a.accept.length c3, .slice A4 n4 c4] 41)) := ((Below.refl _ _).alloc (Nat.le_refl _) _).alloc (by simp) _
  have HGV := Lib.hid hgv0
  have HAV := Lib.hid hav0
  clear hgv hac hnx hgv0 hav0
  go_enter Try.func35, Try.ntmps35
  go_wp2_with fail
  obtain ⟨W0, hW0⟩ : ∃ W0, W0 = ((w.alloc (.cells #[.slice A1 n1 c1, .slice A2 n2 c2] 39)).alloc (.cells #[.int .i64 a.start, .slice A3 a.accept.length c3, .slice A4 n4 c4] 41)) := ⟨_, rfl⟩
  rw [← hW0] at hb0 ⊢
  have x0 : W0.cell? ⟨w.heap.size, 0, none⟩ = some (.slice A1 n1 c1) := by rw [hW0]; simp
  have x1 : W0.cell? ⟨w.heap.size, 1, none⟩ = some (.slice A2 n2 c2) := by rw [hW0]; simp
  have y0 : W0.cell? ⟨w.heap.size + 1, 0, none⟩ = some (.int .i64 a.start) := by rw [hW0]; simp
  have y1 : W0.cell? ⟨w.heap.size + 1, 1, none⟩ = some (.slice A3 a.accept.length c3) := by rw [hW0]; simp
  have y2 : W0.cell? ⟨w.heap.size + 1, 2, none⟩ = some (.slice A4 n4 c4) := by rw [hW0]; simp
  have hs0 : w.heap.size + 1 + 1 = W0.heap.size := by rw [hW0]; simp
  try rw [hs0]
  have l0 : w.heap.size + 1 < W0.heap.size := by omega
  have l00 : w.heap.size < W0.heap.size := by omega
  clear hW0 hs0
  have hgx := l14Good_any _ _ g a x 0 W0 (HGV.out.keep hb0) (HAV.out.keep hb0)
  have HGX := Lib.hid hgx
  clear hgx
  cases hk : goodB g a x 0 with
  | false =>
    rw [hk] at HGX
    have hfin : shortLen g a x y = -1 := by
      unfold shortLen
      rw [if_neg]
      intro h
      rw [goodB0] at hk
      simp only [Bool.and_eq_true] at h
      simp [h] at hk
    have HF := Lib.hid hfin
    clear hk hfin
    refine HGX.out.mono ?_
    rintro e w1 ⟨rfl, hb1⟩
    go_wp2_with fail
    go_ret
    exact ⟨by rw [HF.out]; rfl, below_trans hb0 hb1⟩
  | true =>
    rw [hk] at HGX
    have HK := Lib.hid hk
    clear hk
    refine HGX.out.mono ?_
    rintro e w1 ⟨rfl, hb1⟩
    have hb2 := below_trans hb0 hb1
    have x0 := kcell hb1 x0
    have x1 := kcell hb1 x1
    have y0 := kcell hb1 y0
    have y1 := kcell hb1 y1
    have y2 := kcell hb1 y2
    have l0 := Nat.lt_of_lt_of_le l0 hb1.size
    have l00 := Nat.lt_of_lt_of_le l00 hb1.size
    have hgy := l14Good_any _ _ g a y 0 w1 (HGV.out.keep hb2) (HAV.out.keep hb2)
    have HGY := Lib.hid hgy
    clear hgy
    cases hk : goodB g a y 0 with
    | false =>
      rw [hk] at HGY
      have hfin : shortLen g a x y = -1 := by
        unfold shortLen
        rw [if_neg]
        intro h
        rw [goodB0] at hk
        simp only [Bool.and_eq_true] at h
        simp [h] at hk
      have HF := Lib.hid hfin
      clear hk hfin
      go_wp2_with fail
      refine HGY.out.mono ?_
      rintro e w3 ⟨rfl, hb3⟩
      go_wp2_with fail
      go_ret
      exact ⟨by rw [HF.out]; rfl, below_trans hb2 hb3⟩
    | true =>
      rw [hk] at HGY
      rw [goodB0] at hk
      have hk2 := HK.out
      rw [goodB0] at hk2
      simp only [Bool.and_eq_true, wi_iff] at hk hk2
      obtain ⟨hgo, hao, hy0, hy1⟩ := hk
      obtain ⟨-, -, hx0, hx1⟩ := hk2
      have hdl := distTo_len (g := g) (a := a) (y := y) (by simp [wi_iff, hy0, hy1, hgo, hao])
      obtain ⟨x, rfl⟩ := Int.eq_ofNat_of_zero_le hx0
      obtain ⟨y, rfl⟩ := Int.eq_ofNat_of_zero_le hy0
      have hst0 := (auOk_iff.1 hao).2.1
      have hm12 := (auOk_iff.1 hao).1.2
      have hn5 := (grOk_iff.1 hgo).n5
      obtain ⟨xn, hxn⟩ : ∃ xn, xn = x * a.accept.length := ⟨_, rfl⟩
      have hxn2 : xn + a.accept.length ≤ g.vals.length * a.accept.length := by rw [hxn]; have := Nat.mul_le_mul_right a.accept.length (show x + 1 ≤ g.vals.length by omega); rw [Nat.succ_mul] at this; exact this
      have hN60 : g.vals.length * a.accept.length ≤ 60 := by have := Nat.mul_le_mul hn5 hm12; omega
      rw [← hdl] at hxn2 hN60
      obtain ⟨ix, hix⟩ : ∃ ix : Nat, (ix : Int) = (xn : Int) + a.start := ⟨(xn + a.start.toNat), by omega⟩
      have hixl : ix < (distTo g a (y : Int)).length := by omega
      have hfin : shortLen g a (x : Int) (y : Int) = (distTo g a (y : Int)).getD ix 0 := by
        unfold shortLen
        rw [if_pos (by simp [wi_iff, hx0, hx1, hy0, hy1, hgo, hao]), Int.toNat_natCast, ← hxn]
        congr 1
        omega
      have hget := getD_of hixl
      have q1' : (x : Int) * (a.accept.length : Int) = (xn : Int) := by rw [hxn, Int.natCast_mul]
      have q1 : IntKind.i64.wrap ((x : Int) * (a.accept.length : Int)) = (xn : Int) := by rw [q1']; exact IntWalk.i64_in _ (by omega)
      have q2 : IntKind.i64.wrap ((xn : Int) + a.start) = (ix : Int) := by rw [← hix]; exact IntWalk.i64_in _ (by omega)
      have q2' : (xn : Int) + a.start = (ix : Int) := hix.symm
      have q5 : IntKind.i64.wrap (xn : Int) = (xn : Int) := IntWalk.i64_in _ (by omega)
      have q6 : IntKind.i64.wrap (ix : Int) = (ix : Int) := IntWalk.i64_in _ (by omega)
      have hixi : (ix : Int) < ((distTo g a (y : Int)).length : Int) := by omega
      have hix0 : (0 : Int) ≤ (ix : Int) := by omega
      have hyl : y < g.vals.length := by omega
      have HF := Lib.hid hfin
      have HGET := Lib.hid hget
      have Q1 := Lib.hid q1
      have Q1' := Lib.hid q1'
      have Q2 := Lib.hid q2
      have Q2' := Lib.hid q2'
      have Q5 := Lib.hid q5
      have Q6 := Lib.hid q6
      have HGO := Lib.hid hgo
      have HAO := Lib.hid hao
      clear hget hfin hxn hix hgo hao hdl hx0 hx1 hy0 hy1 hst0 q1 q1' q2 q2' q5 q6
      go_wp2_with fail
      refine HGY.out.mono ?_
      rintro e w3 ⟨rfl, hb3⟩
      have hb4 := below_trans hb2 hb3
      have x0 := kcell hb3 x0
      have x1 := kcell hb3 x1
      have y0 := kcell hb3 y0
      have y1 := kcell hb3 y1
      have y2 := kcell hb3 y2
      clear hb0 hb1 hb2 hb3 HGY HGX HK
      go_wp2_with fail
      have q1 := Q1.out
      have q1' := Q1'.out
      have q2 := Q2.out
      have q2' := Q2'.out
      have q5 := Q5.out
      have q6 := Q6.out
      refine F_start 14 (fun w' => w'.cell? ⟨w.heap.size, 0, none⟩ = some (.slice A1 n1 c1) ∧ w'.cell? ⟨w.heap.size, 1, none⟩ = some (.slice A2 n2 c2) ∧ w'.cell? ⟨w.heap.size + 1, 0, none⟩ = some (.int .i64 a.start) ∧ w'.cell? ⟨w.heap.size + 1, 1, none⟩ = some (.slice A3 a.accept.length c3) ∧ w'.cell? ⟨w.heap.size + 1, 2, none⟩ = some (.slice A4 n4 c4)) (by kernel_rfl) (by exact ⟨x0, x1, y0, y1, y2⟩) (fun hS inv => ?_)
      refine F_take (i := 0) (v := ?_) rfl (by kernel_rfl) (by kernel_rfl) (by kernel_rfl) (fun _ _ _ h => h) inv (Or.inl ⟨by rfl, ?_⟩) (by assumption) (fun invn => ?_)
      rotate_left
      · (intro w hSw; (try dsimp only at hSw); go_simp; try with_reducible rfl)
      try simp only [List.getElem_toArray, List.getElem_cons_zero, List.getElem_cons_succ, Act.put, List.setIfInBounds_toArray, List.set_cons_zero, List.set_cons_succ]
      clear inv
      have inv := invn
      clear invn
      refine F_take (i := 1) (v := ?_) rfl (by kernel_rfl) (by kernel_rfl) (by kernel_rfl) (fun _ _ _ h => h) inv (Or.inl ⟨by rfl, ?_⟩) (by assumption) (fun invn => ?_)
      rotate_left
      · (intro w hSw; (try dsimp only at hSw); go_simp; try with_reducible rfl)
      try simp only [List.getElem_toArray, List.getElem_cons_zero, List.getElem_cons_succ, Act.put, List.setIfInBounds_toArray, List.set_cons_zero, List.set_cons_succ]
      clear inv
      have inv := invn
      clear invn
      refine F_take (i := 2) (v := ?_) rfl (by kernel_rfl) (by kernel_rfl) (by kernel_rfl) (fun _ _ _ h => h) inv (Or.inl ⟨by rfl, ?_⟩) (by assumption) (fun invn => ?_)
      rotate_left
      · (intro w hSw; (try dsimp only at hSw); go_simp; try with_reducible rfl)
      try simp only [List.getElem_toArray, List.getElem_cons_zero, List.getElem_cons_succ, Act.put, List.setIfInBounds_toArray, List.set_cons_zero, List.set_cons_succ]
      clear inv
      have inv := invn
      clear invn
      refine F_take (i := 4) (v := ?_) rfl (by kernel_rfl) (by kernel_rfl) (by kernel_rfl) (fun _ _ _ h => h) inv (Or.inl ⟨by rfl, ?_⟩) (by assumption) (fun invn => ?_)
      rotate_left
      · (intro w hSw; (try dsimp only at hSw); go_simp; try with_reducible rfl)
      try simp only [List.getElem_toArray, List.getElem_cons_zero, List.getElem_cons_succ, Act.put, List.setIfInBounds_toArray, List.set_cons_zero, List.set_cons_succ]
      clear inv
      have inv := invn
      clear invn
      refine F_take (i := 5) (v := ?_) rfl (by kernel_rfl) (by kernel_rfl) (by kernel_rfl) (fun _ _ _ h => h) inv (Or.inl ⟨by rfl, ?_⟩) (by assumption) (fun invn => ?_)
      rotate_left
      · (intro w hSw; (try dsimp only at hSw); go_simp; try with_reducible rfl)
      try simp only [List.getElem_toArray, List.getElem_cons_zero, List.getElem_cons_succ, Act.put, List.setIfInBounds_toArray, List.set_cons_zero, List.set_cons_succ]
      clear inv
      have inv := invn
      clear invn
      refine F_take (i := 6) (v := ?_) rfl (by kernel_rfl) (by kernel_rfl) (by kernel_rfl) (fun _ _ _ h => h) inv (Or.inl ⟨by rfl, ?_⟩) (by assumption) (fun invn => ?_)
      rotate_left
      · (intro w hSw; (try dsimp only at hSw); go_simp; try with_reducible rfl)
      try simp only [List.getElem_toArray, List.getElem_cons_zero, List.getElem_cons_succ, Act.put, List.setIfInBounds_toArray, List.set_cons_zero, List.set_cons_succ]
      clear inv
      have inv := invn
      clear invn
      refine F_take (i := 7) (v := ?_) rfl (by kernel_rfl) (by kernel_rfl) (by kernel_rfl) (fun _ _ _ h => h) inv (Or.inl ⟨by rfl, ?_⟩) (by assumption) (fun invn => ?_)
      rotate_left
      · (intro w hSw; (try dsimp only at hSw); go_simp; try with_reducible rfl)
      try simp only [List.getElem_toArray, List.getElem_cons_zero, List.getElem_cons_succ, Act.put, List.setIfInBounds_toArray, List.set_cons_zero, List.set_cons_succ]
      clear inv
      have inv := invn
      clear invn
      refine F_take (i := 8) (v := ?_) rfl (by kernel_rfl) (by kernel_rfl) (by kernel_rfl) (fun _ _ _ h => h) inv (Or.inl ⟨by rfl, ?_⟩) (by assumption) (fun invn => ?_)
      rotate_left
      · (intro w hSw; (try dsimp only at hSw); go_simp; try with_reducible rfl)
      try simp only [List.getElem_toArray, List.getElem_cons_zero, List.getElem_cons_succ, Act.put, List.setIfInBounds_toArray, List.set_cons_zero, List.set_cons_succ]
      clear inv
      have inv := invn
      clear invn
      refine F_take (i := 9) (v := ?_) rfl (by kernel_rfl) (by kernel_rfl) (by kernel_rfl) (fun _ _ _ h => h) inv (Or.inl ⟨by rfl, ?_⟩) (by assumption) (fun invn => ?_)
      rotate_left
      · (intro w hSw; (try dsimp only at hSw); go_simp; try with_reducible rfl)
      try simp only [List.getElem_toArray, List.getElem_cons_zero, List.getElem_cons_succ, Act.put, List.setIfInBounds_toArray, List.set_cons_zero, List.set_cons_succ]
      clear inv
      have inv := invn
      clear invn
      refine F_take (i := 10) (v := ?_) rfl (by kernel_rfl) (by kernel_rfl) (by kernel_rfl) (fun _ _ _ h => h) inv (Or.inl ⟨by rfl, ?_⟩) (by assumption) (fun invn => ?_)
      rotate_left
      · (intro w hSw; (try dsimp only at hSw); go_simp; try with_reducible rfl)
      try simp only [List.getElem_toArray, List.getElem_cons_zero, List.getElem_cons_succ, Act.put, List.setIfInBounds_toArray, List.set_cons_zero, List.set_cons_succ]
      clear inv
      have inv := invn
      clear invn
      refine F_take (i := 11) (v := ?_) rfl (by kernel_rfl) (by kernel_rfl) (by kernel_rfl) (fun _ _ _ h => h) inv (Or.inl ⟨by rfl, ?_⟩) (by assumption) (fun invn => ?_)
      rotate_left
      · (intro w hSw; (try dsimp only at hSw); go_simp; try with_reducible rfl)
      try simp only [List.getElem_toArray, List.getElem_cons_zero, List.getElem_cons_succ, Act.put, List.setIfInBounds_toArray, List.set_cons_zero, List.set_cons_succ]
      clear inv
      have inv := invn
      clear invn
      refine F_one (i := 3) (by kernel_rfl) rfl rfl (by omega) inv (fun K hK => ?_)
      try simp only [List.getElem_toArray, List.getElem_cons_zero, List.getElem_cons_succ]
      go_simp
      refine (l14Back_any _ _ g a y _ (GrV.keep (w' := w3.drew) HGV.out hb4.drew) (AuV.keep (w' := w3.drew) HAV.out hb4.drew) HGO.out HAO.out hyl).mono ?_
      rintro e wD ⟨vD, rfl, hoD, hbD⟩
      obtain ⟨A5, c5, rfl, hl5, hm5, hC5⟩ := hoD.form cI_len
      obtain ⟨b5, o5, rfl, hb5, d5⟩ := hC5.int HGET.out
      refine hK.out _ _ (kB5 hbD hS) (fun hSn invn => ?_)
      try simp only [List.getElem_toArray, List.getElem_cons_zero, List.getElem_cons_succ, Act.put, List.setIfInBounds_toArray, List.set_cons_zero, List.set_cons_succ]
      clear hK K inv hS
      have inv := invn
      have hS := hSn
      clear invn hSn
      refine F_take (i := 12) (v := ?_) rfl (by kernel_rfl) (by kernel_rfl) (by kernel_rfl) (fun _ _ _ h => h) inv (Or.inl ⟨by rfl, ?_⟩) (by assumption) (fun invn => ?_)
      rotate_left
      · (intro w hSw; (try dsimp only at hSw); go_simp; try with_reducible rfl)
      try simp only [List.getElem_toArray, List.getElem_cons_zero, List.getElem_cons_succ, Act.put, List.setIfInBounds_toArray, List.set_cons_zero, List.set_cons_succ]
      clear inv
      have inv := invn
      clear invn
      refine F_one (i := 13) (by kernel_rfl) rfl rfl (by omega) inv (fun K hK => ?_)
      try simp only [List.getElem_toArray, List.getElem_cons_zero, List.getElem_cons_succ]
      go_simp
      refine hK.out _ _ (hS) (fun hSn invn => ?_)
      try simp only [List.getElem_toArray, List.getElem_cons_zero, List.getElem_cons_succ, Act.put, List.setIfInBounds_toArray, List.set_cons_zero, List.set_cons_succ]
      clear hK K inv hS
      have inv := invn
      have hS := hSn
      clear invn hSn
      refine F_last (i := 14) (by kernel_rfl) rfl rfl (by omega) (by kernel_rfl) (fun K hK => ?_)
      go_simp
      refine hK _ _ ?_
      clear hK K inv hS
      clear q1 q1' q2 q2' q5 q6
      go_wp2_with fail
      go_ret
      exact ⟨by rw [HF.out]; simp [List.getElem?_eq_getElem hixl], below_trans hb4.drew hbD⟩
end Go.Proofs.Ytlhpcknpjdeebaa

/- The reference's CountShortest and CountWalks. -/
namespace Go.Proofs.Ytlhpcknpjdeebaa
set_option linter.unusedVariables false
set_option linter.unusedSimpArgs false
open Go.ChangeShapes Go.WideShapes Go.ChangeAt Go.RowKit
attribute [local go_sem] ext_cell ext_frozen ext_lt ext_lt1 ext_lt2 ext_lt3 ltn2 ltn3 ltn13 lts1 lts2 lts3

/-- the first row's count, as a walk wants it -/
theorem LaysV.first {g : Gr} {a : Au} {y : Int} {k0 : Key} {n lo : Nat} {w : World} {v : Value} (h : LaysV g a y k0 n lo w v) : ∃ (b o c gd cd : Nat), v = .slice (some ⟨b, o, none⟩) (n + 1) c ∧ b < w.heap.size ∧ gd < w.heap.size ∧ w.cell? ⟨b, o, none⟩ = some (.slice (some ⟨gd, 0, none⟩) 1 cd) ∧ w.cell? ⟨gd, 2, none⟩ = some (.int .i64 (cw g a y n k0.1 k0.2 : Nat)) := by
  obtain ⟨A, c, rfl, -, -, h⟩ := h
  obtain ⟨b, o, gd, cd, zs, rfl, hb, hc, hl⟩ := h 0 (Nat.zero_le _)
  obtain ⟨z, -, -, -, -, -, -, -, r2, -, -⟩ := hl.get (i := 0) (k := k0) rfl
  refine ⟨b, o, c, gd, cd, rfl, hb, hl.lt, by simpa [layN] using hc, ?_⟩
  rw [layC_at (i := 0) (k := k0) rfl, Nat.sub_zero] at r2
  simpa using r2
end Go.Proofs.Ytlhpcknpjdeebaa

/- The reference's NthWalk. -/
namespace Go.Proofs.Ytlhpcknpjdeebaa
set_option linter.unusedVariables false
set_option linter.unusedSimpArgs false
open Go.ChangeShapes Go.WideShapes Go.ChangeAt Go.RowKit
attribute [local go_sem] ext_cell ext_frozen ext_lt ext_lt1 ext_lt2 ext_lt3 ltn2 ltn3 ltn13 lts1 lts2 lts3

theorem range61S {d : Nat} (h : d < 61) : (List.range 61)[d]? = some d := by simp [h]
theorem range61S_len : (List.range 61).length = 61 := List.length_range
set_option maxHeartbeats 8000000 in
set_option maxRecDepth 100000 in
theorem specNthWalk (vg va : Value) (g : Gr) (a : Au) (x y n : Int) (w : World) (hgv : GrV 0 w.heap.size w vg g) (hav : AuV 0 w.heap.size w va a) :
    Calls Try.prog 9 #[vg, va, .int .i64 x, .int .i64 y, .int .i64 n] w fun e w' => ∃ v', e = .returned (.tuple #[v', .bool (nthWalk g a x y n).2]) ∧ WkO w.heap.size w'.heap.size w' v' (nthWalk g a x y n).1 ∧ Below w.heap.size w w' := by
  have hgv0 := hgv
  have hav0 := hav
  obtain ⟨A1, n1, c1, A2, n2, c2, rfl⟩ := hgv.shape
  obtain ⟨A3, n3, c3, A4, n4, c4, rfl⟩ := hav.shape
  have hb0 : Below w.heap.size w (((w.alloc (.cells #[.slice A1 n1 c1, .slice A2 n2 c2] 39)).alloc (.cells #[.int .i64 a.start, .slice A3 n3 c3, .slice A4 n4 c4] 41)).alloc (.cells #[.int .i64 0, .slice none 0 0] 34)) := (((Below.refl _ _).alloc (Nat.le_refl _) _).alloc (by simp) _).alloc (by simp; omega) _
  have hbG := ((Blk.new w 39 #[.slice A1 n1 c1, .slice A2 n2 c2] w.heap.size rfl).alloc (.cells #[.int .i64 a.start, .slice A3 n3 c3, .slice A4 n4 c4] 41)).alloc (.cells #[.int .i64 0, .slice none 0 0] 34)
  have hbA := (Blk.new (w.alloc (.cells #[.slice A1 n1 c1, .slice A2 n2 c2] 39)) 41 #[.int .i64 a.start, .slice A3 n3 c3, .slice A4 n4 c4] (w.heap.size + 1) (by simp)).alloc (.cells #[.int .i64 0, .slice none 0 0] 34)
  have hbR := Blk.new ((w.alloc (.cells #[.slice A1 n1 c1, .slice A2 n2 c2] 39)).alloc (.cells #[.int .i64 a.start, .slice A3 n3 c3, .slice A4 n4 c4] 41)) 34 #[.int .i64 0, .slice none 0 0] (w.heap.size + 1 + 1) (by simp)
  have HBG := Lib.hid hbG
  have HBA := Lib.hid hbA
  have HBR := Lib.hid hbR
  have HGV := Lib.hid hgv0
  have HAV := Lib.hid hav0
  have HB0 := Lib.hid hb0
  have HSL := Lib.hid (fun (W : World) (hW : Below w.heap.size w W) => specShortestLength _ _ g a x y W (HGV.out.keep hW) (HAV.out.keep hW))
  clear hgv hav hgv0 hav0 hb0 hbG hbA hbR
  obtain ⟨R, hR⟩ : ∃ R, R = nthWalk g a x y n := ⟨_, rfl⟩
  rw [← hR]
  by_cases hneg : shortLen g a x y < 0
  · have HF := Lib.hid (show R = ((0, []), false) by rw [hR, nthWalk, if_neg]; rw [decide_eq_false (by omega)]; simp)
    generalize shortLen g a x y = SL at *
    clear hR
    go_enter Try.func9, Try.ntmps9
    go_wp2_with fail
    refine (HSL.out _ HB0.out).mono ?_
    rintro e w1 ⟨rfl, hb1⟩
    have hb2 := below_trans HB0.out hb1
    have bR := HBR.out.keep hb1
    have r0 : w1.cell? ⟨w.heap.size + 1 + 1, 0, none⟩ = some (.int .i64 0) := bR.cell 0
    have r1 : w1.cell? ⟨w.heap.size + 1 + 1, 1, none⟩ = some (.slice none 0 0) := bR.cell 1
    have fr0 := bR.frozen 0
    have fr1 := bR.frozen 1
    have lr := bR.lt
    clear bR
    clear hb1
    go_wp2_with fail
    refine bodyPost_ret (v := .tuple #[.agg #[.int .i64 0, .slice none 0 0], .bool false]) (by simp [results, Try.results9, go_sem, r0, r1]) rfl ⟨_, by rw [HF.out], ?_, (hb2.setCell (p := ⟨w.heap.size + 1 + 1, 0, none⟩) (by simp only; omega) _).setCell (p := ⟨w.heap.size + 1 + 1, 1, none⟩) (by simp only; omega) _⟩
    rw [HF.out]
    exact ⟨_, rfl, Own.nil _ _ _ _ _ _⟩
  · have hco := shortLen_ok (show 0 ≤ shortLen g a x y by omega)
    obtain ⟨⟨hx0, hx1⟩, ⟨hy0, hy1⟩, hgo, ha⟩ := cntOk_iff.1 hco
    have hRe : R = if wi n 0 999999 = true then nthWalkP g a x y n.toNat else ((0, []), false) := by rw [hR, nthWalk, decide_eq_true (show 0 ≤ shortLen g a x y by omega), Bool.true_and]
    clear hR
    generalize shortLen g a x y = L at *
    obtain ⟨x, rfl⟩ := Int.eq_ofNat_of_zero_le hx0
    have HGO := Lib.hid hgo
    have HA := Lib.hid ha
    have hn5 := (grOk_iff.1 hgo).n5
    have hxl : x < g.vals.length := by omega
    have HW := Lib.hid (fun W => l1In_any n 0 999999 W)
    cases hwn : wi n 0 999999 with
    | false =>
      have HF := Lib.hid (show R = ((0, []), false) by rw [hRe, hwn]; simp)
      rw [hwn] at HW
      clear hco hgo ha hx0 hx1 hy0 hy1 hRe hwn
      go_enter Try.func9, Try.ntmps9
      go_wp2_with fail
      refine (HSL.out _ HB0.out).mono ?_
      rintro e w1 ⟨rfl, hb1⟩
      have hb2 := below_trans HB0.out hb1
      have bR := HBR.out.keep hb1
      have r0 : w1.cell? ⟨w.heap.size + 1 + 1, 0, none⟩ = some (.int .i64 0) := bR.cell 0
      have r1 : w1.cell? ⟨w.heap.size + 1 + 1, 1, none⟩ = some (.slice none 0 0) := bR.cell 1
      have fr0 := bR.frozen 0
      have fr1 := bR.frozen 1
      have lr := bR.lt
      clear bR
      clear hb1
      go_wp2_with fail
      refine (HW.out _).mono ?_
      rintro e w9 ⟨rfl, hw9⟩
      rw [hw9]
      clear hw9
      go_wp2_with fail
      refine bodyPost_ret (v := .tuple #[.agg #[.int .i64 0, .slice none 0 0], .bool false]) (by simp [results, Try.results9, go_sem, r0, r1]) rfl ⟨_, by rw [HF.out], ?_, (hb2.setCell (p := ⟨w.heap.size + 1 + 1, 0, none⟩) (by simp only; omega) _).setCell (p := ⟨w.heap.size + 1 + 1, 1, none⟩) (by simp only; omega) _⟩
      rw [HF.out]
      exact ⟨_, rfl, Own.nil _ _ _ _ _ _⟩
    | true =>
      have hwi := wi_iff.1 hwn
      obtain ⟨n, rfl⟩ := Int.eq_ofNat_of_zero_le hwi.1
      have hn6 : n ≤ 999999 := by omega
      have hRp : R = nthWalkP g a (x : Int) y n := by rw [hRe, hwn, if_pos rfl, Int.toNat_natCast]
      have hK : ∀ f, cwI g a (x : Int) y f = cw g a y f x (bit a.start.toNat) := fun f => rfl
      have HPK := Lib.hid (fun (f m : Nat) (h : pick (cwI g a (x : Int) y) (List.range 61) n = some (f, m)) => show R = (((x : Int), nthL g a y f x (bit a.start.toNat) m), true) by rw [hRp, nthWalkP]; simp only [h]; rfl)
      have HNO := Lib.hid (fun (h : pick (cwI g a (x : Int) y) (List.range 61) n = none) => show R = ((0, []), false) by rw [hRp, nthWalkP]; simp only [h])
      obtain ⟨KW, hKW⟩ : ∃ KW, KW = cwI g a (x : Int) y := ⟨_, rfl⟩
      rw [← hKW] at HPK HNO
      have HKW := Lib.hid (fun f => (show KW f = cw g a y f x (bit a.start.toNat) by rw [hKW]; exact hK f))
      have HKL := Lib.hid (fun f => (show KW f ≤ 1000000 by rw [hKW]; exact cwI_le ..))
      have HNT := Lib.hid (fun (W : World) (v : Value) (lo d m : Nat) (hd : d ≤ 60) (hm : m < KW d) (h : LaysV g a y (x, bit a.start.toNat) d lo W v) => show Calls Try.prog 38 #[v, .int .i64 (x : Int), .int .i64 (m : Int)] W fun e w' => ∃ v', e = .returned (.tuple #[v', .bool true]) ∧ WkO W.heap.size w'.heap.size w' v' ((x : Int), nthL g a y d x (bit a.start.toNat) m) ∧ Below W.heap.size W w' from by
        have hq := l19Nth_any g a y (x, bit a.start.toNat) d lo v x m W h hgo ha ⟨hxl, startOk ha⟩ hd
        have hw : wi (m : Int) 0 ((cw g a y d x (bit a.start.toNat) : Nat) - 1) = true := by rw [wi_iff]; rw [hKW, hK] at hm; omega
        simp only at hq
        rw [hw, if_pos rfl, Int.toNat_natCast] at hq
        exact hq)
      rw [hwn] at HW
      clear hco hgo ha hx0 hx1 hy0 hy1 hRe hwn hwi hRp hK hKW
      go_enter Try.func9, Try.ntmps9
      go_wp2_with fail
      refine (HSL.out _ HB0.out).mono ?_
      rintro e w1 ⟨rfl, hb1⟩
      have HB2 := Lib.hid (below_trans HB0.out hb1)
      have HG1 := Lib.hid (HBG.out.keep hb1)
      have HA1 := Lib.hid (HBA.out.keep hb1)
      have HR1 := Lib.hid (HBR.out.keep hb1)
      clear hb1
      go_wp2_with fail
      refine (HW.out _).mono ?_
      rintro e w9 ⟨rfl, hw9⟩
      rw [hw9]
      clear hw9
      go_wp2_with fail
      go_loopw [4, 12] (fun nn ll wr => ∃ (d : Nat), d ≤ 61 ∧ nn = .int .i64 (leftN KW ((List.range 61).take d) n : Nat) ∧ ll = .int .i64 (d : Int) ∧ (∀ j q, j < d → (List.range 61)[j]? = some q → ¬ leftN KW ((List.range 61).take j) n < KW q) ∧ Blk wr w.heap.size 39 #[.slice A1 n1 c1, .slice A2 n2 c2] ∧ Blk wr (w.heap.size + 1) 41 #[.int .i64 a.start, .slice A3 n3 c3, .slice A4 n4 c4] ∧ Blk wr (w.heap.size + 1 + 1) 34 #[.int .i64 0, .slice none 0 0] ∧ Below w.heap.size w wr) (fun _ ll _ => 61 - (intOf ll).toNat)
      case atStart => exact ⟨0, by omega, rfl, rfl, fun j q hj => by omega, HG1.out, HA1.out, HR1.out, HB2.out⟩
      case round =>
        clear HB2 HG1 HA1 HR1
        obtain ⟨d, hd, rfl, rfl, hno, hbg, hba, hbr, hbl⟩ := hrel
        have hll := leftN_le KW ((List.range 61).take d) n
        by_cases hlt : d < 61
        · have hdl : ((d : Int) ≤ 60) := by omega
          have hrd := range61S hlt
          have hPH := fun h => pick_here hrd hno h
          have hLS := leftN_succ (k := KW) (n := n) hrd
          have hno2 : ¬ leftN KW ((List.range 61).take d) n < KW d → ∀ j q, j < d + 1 → (List.range 61)[j]? = some q → ¬ leftN KW ((List.range 61).take j) n < KW q := fun h j q hj hq => by
            rcases Nat.lt_or_ge j d with h1 | h1
            · exact hno j q h1 hq
            · obtain rfl : j = d := by omega
              rw [hrd] at hq
              injection hq with hq
              rw [← hq]; exact h
          have HPH := Lib.hid hPH
          have HLS := Lib.hid hLS
          have HN2 := Lib.hid hno2
          have HCL := HKL.out d
          have HKD := Lib.hid (HKW.out d)
          have HND := Lib.hid (fun (W : World) (v : Value) (lo m : Nat) hm hv => HNT.out W v lo d m (by omega) hm hv)
          obtain ⟨CC, hCC⟩ : ∃ CC, CC = KW d := ⟨_, rfl⟩
          rw [← hCC] at HPH HLS HN2 HCL HKD HND
          obtain ⟨m1, hm1⟩ : ∃ m1, m1 = leftN KW ((List.range 61).take d) n := ⟨_, rfl⟩
          rw [← hm1] at HPH HLS HN2 hll ⊢
          have x0 : wr.cell? ⟨w.heap.size, 0, none⟩ = some (.slice A1 n1 c1) := (hbg).cell 0
          have x1 : wr.cell? ⟨w.heap.size, 1, none⟩ = some (.slice A2 n2 c2) := (hbg).cell 1
          have y0 : wr.cell? ⟨w.heap.size + 1, 0, none⟩ = some (.int .i64 a.start) := (hba).cell 0
          have y1 : wr.cell? ⟨w.heap.size + 1, 1, none⟩ = some (.slice A3 n3 c3) := (hba).cell 1
          have y2 : wr.cell? ⟨w.heap.size + 1, 2, none⟩ = some (.slice A4 n4 c4) := (hba).cell 2
          have HG := Lib.hid hbg
          have HAB := Lib.hid hba
          have HR := Lib.hid hbr
          have HB := Lib.hid hbl
          clear hPH hLS hno2 hrd hno hbg hba hbr hbl hCC hm1
          go_wp2_with fail
          refine (l19Layers_any _ _ g a x y d _ (HGV.out.keep HB.out) (HAV.out.keep HB.out) HGO.out HA.out hxl (by omega)).mono ?_
          rintro e w2 ⟨v2, rfl, hlv, hb3⟩
          have HLV := Lib.hid hlv
          obtain ⟨bL, oL, cL, gd, cd, hv2, lb, lg, r0, r2⟩ := hlv.first
          subst hv2
          simp only at r2
          rw [← HKD.out] at r2
          have hn1 : (0 : Int) < (d : Int) + 1 := by omega
          have HB3 := Lib.hid (below_trans HB.out hb3)
          have HG2 := Lib.hid (HG.out.keep hb3)
          have HAB2 := Lib.hid (HAB.out.keep hb3)
          have HBR2 := Lib.hid (HR.out.keep hb3)
          have lr2 := HBR2.out.lt
          clear hlv hb3 x0 x1 y0 y1 y2
          by_cases hpk : m1 < CC
          · have hpk1 : (m1 : Int) < (CC : Int) := by omega
            have HF := Lib.hid (HPK.out d m1 (HPH.out hpk))
            go_wp2_with fail
            refine (HND.out _ _ _ m1 hpk HLV.out).mono ?_
            rintro e w3 ⟨v3, rfl, ⟨ss, rfl, hss⟩, hb4⟩
            obtain ⟨A9, n9, c9, rfl⟩ := hss.shape
            have bR := (HBR2.out.keep hb4).alloc (.cells #[.int .i64 (x : Int), .slice A9 n9 c9] 34)
            have hbD := (below_trans HB3.out hb4).alloc (below_trans HB3.out hb4).size (.cells #[.int .i64 (x : Int), .slice A9 n9 c9] 34)
            have bV := Blk.new w3 34 #[.int .i64 (x : Int), .slice A9 n9 c9] w3.heap.size rfl
            have HSS := Lib.hid hss
            clear r0 r2
            go_upto_region 9 with fail
            obtain ⟨wd, hwd⟩ : ∃ wd, wd = w3.alloc (.cells #[.int .i64 (x : Int), .slice A9 n9 c9] 34) := ⟨_, rfl⟩
            rw [← hwd] at bR bV hbD ⊢
            have hwb : ∀ b, b < w3.heap.size → wd.heap[b]? = w3.heap[b]? := fun b hb => by rw [hwd]; exact Below.heap_alloc _ _ _ hb
            have hws : w3.heap.size ≤ wd.heap.size := by rw [hwd]; simp
            clear hwd
            have HOW := Lib.hid hss
            have e0 : wd.cell? ⟨w.heap.size + 1 + 1, 0, none⟩ = some (.int .i64 0) := bR.cell 0
            have e1 : wd.cell? ⟨w.heap.size + 1 + 1, 1, none⟩ = some (.slice none 0 0) := bR.cell 1
            have t0 : wd.cell? ⟨w3.heap.size, 0, none⟩ = some (.int .i64 (x : Int)) := bV.cell 0
            have t1 : wd.cell? ⟨w3.heap.size, 1, none⟩ = some (.slice A9 n9 c9) := bV.cell 1
            have fr0 := bR.frozen 0
            have fr1 := bR.frozen 1
            have lr := bR.lt
            have q0 : ((wd.setCell ⟨w.heap.size + 1 + 1, 0, none⟩ (.int .i64 (x : Int))).setCell ⟨w.heap.size + 1 + 1, 1, none⟩ (.slice A9 n9 c9)).cell? ⟨w.heap.size + 1 + 1, 0, none⟩ = some (.int .i64 (x : Int)) := by simpa using ((bR.set_ 0 (.int .i64 (x : Int))).set_ 1 (.slice A9 n9 c9)).cell 0
            have q1 : ((wd.setCell ⟨w.heap.size + 1 + 1, 0, none⟩ (.int .i64 (x : Int))).setCell ⟨w.heap.size + 1 + 1, 1, none⟩ (.slice A9 n9 c9)).cell? ⟨w.heap.size + 1 + 1, 1, none⟩ = some (.slice A9 n9 c9) := by simpa using ((bR.set_ 0 (.int .i64 (x : Int))).set_ 1 (.slice A9 n9 c9)).cell 1
            have q2 : (wd.setCell ⟨w.heap.size + 1 + 1, 0, none⟩ (.int .i64 (x : Int))).cell? ⟨w.heap.size + 1 + 1, 0, none⟩ = some (.int .i64 (x : Int)) := by simpa using (bR.set_ 0 (.int .i64 (x : Int))).cell 0
            have hwe : ((wd.setCell ⟨w.heap.size + 1 + 1, 0, none⟩ (.int .i64 (x : Int))).setCell ⟨w.heap.size + 1 + 1, 1, none⟩ (.slice A9 n9 c9)).heap.size = wd.heap.size := by simp [World.setCell]
            have hbn : ∀ b, b < w3.heap.size → b ≠ w.heap.size + 1 + 1 → ((wd.setCell ⟨w.heap.size + 1 + 1, 0, none⟩ (.int .i64 (x : Int))).setCell ⟨w.heap.size + 1 + 1, 1, none⟩ (.slice A9 n9 c9)).heap[b]? = w3.heap[b]? := fun b hb hne => by rw [Below.heap_setCell _ _ _ _ hne, Below.heap_setCell _ _ _ _ hne, hwb b hb]
            have HQ := Lib.hid (And.intro q0 (And.intro q1 (And.intro q2 (And.intro hwe hbn))))
            have HBE := Lib.hid ((hbD.setCell (p := ⟨w.heap.size + 1 + 1, 0, none⟩) (by simp only; omega) (.int .i64 (x : Int))).setCell (p := ⟨w.heap.size + 1 + 1, 1, none⟩) (by simp only; omega) (.slice A9 n9 c9))
            clear q0 q1 q2 hwe hbn bR bV hbD hwb hss
            go_wp2_with fail
            obtain ⟨q0, q1, q2, hwe, hbn⟩ := HQ.out
            refine bodyPost_ret (v := .tuple #[.agg #[.int .i64 (x : Int), .slice A9 n9 c9], .bool true]) (by simp [results, Try.results9, go_sem, q0, q1, q2]) rfl ⟨_, by rw [HF.out], ?_, HBE.out⟩
            rw [HF.out]
            exact ⟨_, rfl, (HOW.out.blocks (fun b hb => hbn b (HOW.out.lt b hb).2.2 (by have := HOW.out.lt b hb; omega))).mono (by have := HB3.out.size; omega) (by omega)⟩
          · have hpk1 : ¬ (m1 : Int) < (CC : Int) := by omega
            have hsub : IntKind.i64.wrap ((m1 : Int) - (CC : Int)) = ((m1 - CC : Nat) : Int) := by rw [IntWalk.i64_in _ (by omega)]; omega
            have hsub2 : (m1 : Int) - (CC : Int) = ((m1 - CC : Nat) : Int) := by omega
            have HNP := Lib.hid (HN2.out hpk)
            clear HPH HN2
            go_wp2_with fail
            clear hsub
            go_roundw
            case rel => exact ⟨d + 1, by omega, by first | (rw [HLS.out, hsub2]; done) | (rw [HLS.out]; done) | (rw [HLS.out]; rw [hsub2]) | (rw [HLS.out]; rfl), by go_num, HNP.out, HG2.out, HAB2.out, HBR2.out, HB3.out⟩
            case measure => simp [intOf]; omega
        · obtain rfl : d = 61 := by omega
          have HF := Lib.hid (HNO.out (pick_end (by rw [range61S_len]; exact hno)))
          have bR := hbr
          have r0 : wr.cell? ⟨w.heap.size + 1 + 1, 0, none⟩ = some (.int .i64 0) := bR.cell 0
          have r1 : wr.cell? ⟨w.heap.size + 1 + 1, 1, none⟩ = some (.slice none 0 0) := bR.cell 1
          have fr0 := bR.frozen 0
          have fr1 := bR.frozen 1
          have lr := bR.lt
          have HB := Lib.hid hbl
          clear bR hno hbg hba hbr hbl
          go_wp2_with fail
          refine bodyPost_ret (v := .tuple #[.agg #[.int .i64 0, .slice none 0 0], .bool false]) (by simp [results, Try.results9, go_sem, r0, r1]) rfl ⟨_, by rw [HF.out], ?_, (HB.out.setCell (p := ⟨w.heap.size + 1 + 1, 0, none⟩) (by simp only; omega) _).setCell (p := ⟨w.heap.size + 1 + 1, 1, none⟩) (by simp only; omega) _⟩
          rw [HF.out]
          exact ⟨_, rfl, Own.nil _ _ _ _ _ _⟩
end Go.Proofs.Ytlhpcknpjdeebaa

/- The searches for trails and simple paths, plainly: depth first over the arcs in their order, with a budget of calls. -/
namespace Go.Proofs.Ytlhpcknpjdeebaa
set_option linter.unusedVariables false
set_option linter.unusedSimpArgs false
open Go.ChangeShapes Go.WideShapes Go.ChangeAt Go.RowKit

/-- a state that is at most lf steps from the end -/
def hopeC (D : List Int) (n x lf q : Nat) : Bool := wi (D.getD (x * n + q) 0) 0 (lf : Int)
def hope (D : List Int) (n x s lf : Nat) : Bool := (mem 12 s).any (hopeC D n x lf)
def keyA (sm : Bool) (p : Arc) : Int := if sm then p.2.2 else p.1.1
def skipA (g : Gr) (a : Au) (D : List Int) (sm : Bool) (x s : Nat) (us : List Int) (lf : Nat) (p : Arc) : Bool :=
  decide (aft a s (valAt g x) p.2.1.toNat = 0) || (us.contains (keyA sm p) || !hope D a.accept.length p.2.2.toNat (aft a s (valAt g x) p.2.1.toNat) lf)
abbrev Vis := Option (List St) × Nat
def visC (g : Gr) (a : Au) (D : List Int) (sm : Bool) (rec : Nat → Nat → List Int → Nat → Vis) (x s : Nat) (us : List Int) (lf : Nat) : List Arc → Nat → Vis
  | [], c => (none, c)
  | p :: ps, c => if skipA g a D sm x s us lf p = true then visC g a D sm rec x s us lf ps c else
    match rec p.2.2.toNat (aft a s (valAt g x) p.2.1.toNat) (us ++ [keyA sm p]) c with
    | (some r, c') => (some (p.1 :: r), c')
    | (none, c') => visC g a D sm rec x s us lf ps c'
def visit (g : Gr) (a : Au) (y : Int) (B : Nat) (D : List Int) (sm : Bool) : Nat → Nat → Nat → List Int → Nat → Vis
  | 0, x, s, _, c => if B ≤ c then (none, c) else (if (decide ((x : Int) = y) && acc a s (valAt g x)) = true then some [] else none, c + 1)
  | lf + 1, x, s, us, c => if B ≤ c then (none, c) else visC g a D sm (visit g a y B D sm lf) x s us lf (arcsOf g (x : Int)) (c + 1)
/-- what is left of a visit at arc i -/
def visF (g : Gr) (a : Au) (y : Int) (B : Nat) (D : List Int) (sm : Bool) (lf x s : Nat) (us : List Int) (i c : Nat) : Vis := visC g a D sm (visit g a y B D sm lf) x s us lf ((arcsOf g (x : Int)).drop i) c
section
variable {g : Gr} {a : Au} {y : Int} {B : Nat} {D : List Int} {sm : Bool} {lf x s : Nat} {us : List Int} {i c : Nat}
theorem visit_out (h : B ≤ c) : visit g a y B D sm lf x s us c = (none, c) := by
  cases lf with
  | zero => rw [visit, if_pos h]
  | succ lf => rw [visit, if_pos h]
theorem visit_zero (h : c < B) : visit g a y B D sm 0 x s us c = (if (decide ((x : Int) = y) && acc a s (valAt g x)) = true then some [] else none, c + 1) := by rw [visit, if_neg (by omega)]
def endV (b : Bool) (c : Nat) : Vis := (if b = true then some [] else none, c)
theorem endV_some (b : Bool) (c : Nat) : (endV b c).1.isSome = b := by cases b <;> rfl
theorem endV_get (b : Bool) (c : Nat) : (endV b c).1.getD [] = [] := by cases b <;> rfl
theorem endV_two (b : Bool) (c : Nat) : (endV b c).2 = c := rfl
theorem visit_zeroV (h : c < B) : visit g a y B D sm 0 x s us c = endV (decide ((x : Int) = y) && acc a s (valAt g x)) (c + 1) := visit_zero h
theorem visit_succ (h : c < B) : visit g a y B D sm (lf + 1) x s us c = visF g a y B D sm lf x s us 0 (c + 1) := by rw [visit, if_neg (by omega), visF, List.drop_zero]
theorem visF_end : visF g a y B D sm lf x s us (arcsOf g (x : Int)).length c = (none, c) := by rw [visF, List.drop_length, visC]
theorem drop_at {α : Type} {l : List α} {i : Nat} {p : α} (h : l[i]? = some p) : l.drop i = p :: l.drop (i + 1) := by
  obtain ⟨h1, h2⟩ := List.getElem?_eq_some_iff.1 h
  rw [List.drop_eq_getElem_cons h1, h2]
theorem visF_skip {p : Arc} (h : (arcsOf g (x : Int))[i]? = some p) (hs : skipA g a D sm x s us lf p = true) : visF g a y B D sm lf x s us i c = visF g a y B D sm lf x s us (i + 1) c := by
  rw [visF, drop_at h, visC, if_pos hs, visF]
theorem visF_yes {p : Arc} {r : List St} {c' : Nat} (h : (arcsOf g (x : Int))[i]? = some p) (hs : ¬ skipA g a D sm x s us lf p = true)
    (hr : visit g a y B D sm lf p.2.2.toNat (aft a s (valAt g x) p.2.1.toNat) (us ++ [keyA sm p]) c = (some r, c')) : visF g a y B D sm lf x s us i c = (some (p.1 :: r), c') := by
  rw [visF, drop_at h, visC, if_neg hs, hr]
theorem visF_no {p : Arc} {c' : Nat} (h : (arcsOf g (x : Int))[i]? = some p) (hs : ¬ skipA g a D sm x s us lf p = true)
    (hr : visit g a y B D sm lf p.2.2.toNat (aft a s (valAt g x) p.2.1.toNat) (us ++ [keyA sm p]) c = (none, c')) : visF g a y B D sm lf x s us i c = visF g a y B D sm lf x s us (i + 1) c' := by
  rw [visF, drop_at h, visC, if_neg hs, hr, visF]
theorem skipA_eq {p : Arc} {t M : Nat} {k : Int} (ht : p.2.2 = (t : Int)) (hm : aft a s (valAt g x) p.2.1.toNat = M) (hk : keyA sm p = k) : skipA g a D sm x s us lf p = (decide (M = 0) || (us.contains k || !hope D a.accept.length t M lf)) := by rw [skipA, hm, hk, ht, Int.toNat_natCast]
theorem visF_skip2 {p : Arc} {t M : Nat} {k : Int} (h : (arcsOf g (x : Int))[i]? = some p) (ht : p.2.2 = (t : Int)) (hm : aft a s (valAt g x) p.2.1.toNat = M) (hk : keyA sm p = k) (hs : (decide (M = 0) || (us.contains k || !hope D a.accept.length t M lf)) = true) :
    visF g a y B D sm lf x s us i c = visF g a y B D sm lf x s us (i + 1) c := visF_skip h (by rw [skipA_eq ht hm hk, hs])
theorem visF_yes2 {p : Arc} {t M : Nat} {k : Int} {r : List St} {c' : Nat} (h : (arcsOf g (x : Int))[i]? = some p) (ht : p.2.2 = (t : Int)) (hm : aft a s (valAt g x) p.2.1.toNat = M) (hk : keyA sm p = k) (hs : (decide (M = 0) || (us.contains k || !hope D a.accept.length t M lf)) = false)
    (hr : visit g a y B D sm lf t M (us ++ [k]) c = (some r, c')) : visF g a y B D sm lf x s us i c = (some (p.1 :: r), c') := visF_yes h (by rw [skipA_eq ht hm hk, hs]; simp) (by rw [hm, hk, ht, Int.toNat_natCast]; exact hr)
theorem visF_no2 {p : Arc} {t M : Nat} {k : Int} {c' : Nat} (h : (arcsOf g (x : Int))[i]? = some p) (ht : p.2.2 = (t : Int)) (hm : aft a s (valAt g x) p.2.1.toNat = M) (hk : keyA sm p = k) (hs : (decide (M = 0) || (us.contains k || !hope D a.accept.length t M lf)) = false)
    (hr : visit g a y B D sm lf t M (us ++ [k]) c = (none, c')) : visF g a y B D sm lf x s us i c = visF g a y B D sm lf x s us (i + 1) c' := visF_no h (by rw [skipA_eq ht hm hk, hs]; simp) (by rw [hm, hk, ht, Int.toNat_natCast]; exact hr)
theorem visC_le {rec : Nat → Nat → List Int → Nat → Vis} {N : Nat} (hrec : ∀ x s us c, c ≤ N → (rec x s us c).2 ≤ N ∧ c ≤ (rec x s us c).2) : ∀ (l : List Arc) (c : Nat), c ≤ N → (visC g a D sm rec x s us lf l c).2 ≤ N ∧ c ≤ (visC g a D sm rec x s us lf l c).2
  | [], c, h => ⟨h, Nat.le_refl _⟩
  | p :: l, c, h => by
    rw [visC]
    split
    · exact visC_le hrec l c h
    · have h1 := hrec p.2.2.toNat (aft a s (valAt g x) p.2.1.toNat) (us ++ [keyA sm p]) c h
      split
      · rename_i r c' e
        rw [e] at h1
        exact h1
      · rename_i c' e
        rw [e] at h1
        have h2 := visC_le hrec l c' h1.1
        exact ⟨h2.1, Nat.le_trans h1.2 h2.2⟩
theorem visit_le : ∀ (lf x s : Nat) (us : List Int) (c : Nat), c ≤ B → (visit g a y B D sm lf x s us c).2 ≤ B ∧ c ≤ (visit g a y B D sm lf x s us c).2 := by
  intro lf
  induction lf with
  | zero =>
    intro x s us c h
    rw [visit]
    split
    · exact ⟨h, Nat.le_refl _⟩
    · simp only
      omega
  | succ lf ih =>
    intro x s us c h
    rw [visit]
    split
    · exact ⟨h, Nat.le_refl _⟩
    · have := visC_le (g := g) (a := a) (D := D) (sm := sm) (x := x) (s := s) (us := us) (lf := lf) ih (arcsOf g (x : Int)) (c + 1) (by omega)
      omega
theorem visC_len {rec : Nat → Nat → List Int → Nat → Vis} {k : Nat} (hrec : ∀ x s us c r, (rec x s us c).1 = some r → r.length = k) : ∀ (l : List Arc) (c : Nat) (r : List St), (visC g a D sm rec x s us lf l c).1 = some r → r.length = k + 1
  | [], c, r, h => by cases h
  | p :: l, c, r, h => by
    rw [visC] at h
    split at h
    · exact visC_len hrec l c r h
    · have h1 := hrec p.2.2.toNat (aft a s (valAt g x) p.2.1.toNat) (us ++ [keyA sm p]) c
      split at h
      · rename_i r' c' e
        injection h with h
        subst h
        rw [e] at h1
        rw [List.length_cons, h1 r' rfl]
      · exact visC_len hrec l _ r h
theorem visit_len : ∀ (lf x s : Nat) (us : List Int) (c : Nat) (r : List St), (visit g a y B D sm lf x s us c).1 = some r → r.length = lf := by
  intro lf
  induction lf with
  | zero =>
    intro x s us c r h
    rw [visit] at h
    split at h
    · cases h
    · simp only at h
      split at h
      · injection h with h
        rw [← h]; rfl
      · cases h
  | succ lf ih =>
    intro x s us c r h
    rw [visit] at h
    split at h
    · cases h
    · exact visC_len ih _ _ r h
end
/-- one length after another -/
def srchF (g : Gr) (a : Au) (y : Int) (B : Nat) (D : List Int) (sm : Bool) (x s : Nat) (us : List Int) : Nat → Nat → Nat → Wk × Int
  | 0, _, _ => ((0, []), 2)
  | k + 1, lf, c => if hope D a.accept.length x s lf = true then
      match visit g a y B D sm lf x s us c with
      | (some r, _) => (((x : Int), r), 1)
      | (none, c') => if B ≤ c' then ((0, []), 3) else srchF g a y B D sm x s us k (lf + 1) c'
    else srchF g a y B D sm x s us k (lf + 1) c
section
variable {g : Gr} {a : Au} {y : Int} {B : Nat} {D : List Int} {sm : Bool} {lf x s : Nat} {us : List Int} {k c : Nat}
theorem srchF_no (h : hope D a.accept.length x s lf = false) : srchF g a y B D sm x s us (k + 1) lf c = srchF g a y B D sm x s us k (lf + 1) c := by rw [srchF, h]; rfl
theorem srchF_yes {r : List St} {c' : Nat} (h : hope D a.accept.length x s lf = true) (hv : visit g a y B D sm lf x s us c = (some r, c')) : srchF g a y B D sm x s us (k + 1) lf c = (((x : Int), r), 1) := by rw [srchF, if_pos h, hv]
theorem srchF_out {c' : Nat} (h : hope D a.accept.length x s lf = true) (hv : visit g a y B D sm lf x s us c = (none, c')) (hc : B ≤ c') : srchF g a y B D sm x s us (k + 1) lf c = ((0, []), 3) := by
  rw [srchF, if_pos h, hv]
  simp only
  rw [if_pos hc]
theorem srchF_on {c' : Nat} (h : hope D a.accept.length x s lf = true) (hv : visit g a y B D sm lf x s us c = (none, c')) (hc : ¬ B ≤ c') : srchF g a y B D sm x s us (k + 1) lf c = srchF g a y B D sm x s us k (lf + 1) c' := by
  rw [srchF, if_pos h, hv]
  simp only
  rw [if_neg hc]
end
def srchN (g : Gr) (sm : Bool) : Nat := if sm then g.vals.length else g.edges.length + 1
def srchU (sm : Bool) (x : Nat) : List Int := if sm then [(x : Int)] else []
def srchOk (g : Gr) (a : Au) (x y B : Int) : Bool := cntOk g a x y && wi B 1 20000
def srchL (g : Gr) (a : Au) (x y B : Int) (sm : Bool) : Wk × Int :=
  if srchOk g a x y B = true then srchF g a y B.toNat (distTo g a y) sm x.toNat (bit a.start.toNat) (srchU sm x.toNat) (srchN g sm) 0 0 else ((0, []), 0)
end Go.Proofs.Ytlhpcknpjdeebaa

/- The answers by trails and by simple paths, plainly: pair after pair; one unknown search ends all. -/
namespace Go.Proofs.Ytlhpcknpjdeebaa
set_option linter.unusedVariables false
set_option linter.unusedSimpArgs false
open Go.ChangeShapes Go.WideShapes Go.ChangeAt Go.RowKit

def srCode (f : Nat → Nat → Int) (x : Nat) (st : Option (List Pr)) (y : Nat) : Option (List Pr) :=
  match st with
  | none => none
  | some L => if f x y = 1 then some (L ++ [((x : Int), (y : Int))]) else if f x y = 3 then none else some L
def srRowF (f : Nat → Nat → Int) (x : Nat) (st : Option (List Pr)) (j : Nat) : Option (List Pr) := (List.range j).foldl (srCode f x) st
def srAllF (f : Nat → Nat → Int) (n i : Nat) : Option (List Pr) := (List.range i).foldl (fun st x => srRowF f x st n) (some [])
section
variable {f : Nat → Nat → Int} {x n i j : Nat} {st : Option (List Pr)} {L : List Pr}
theorem srRowF_succ : srRowF f x st (j + 1) = srCode f x (srRowF f x st j) j := by simp [srRowF, List.range_succ]
theorem srAllF_succ : srAllF f n (i + 1) = srRowF f i (srAllF f n i) n := by simp [srAllF, List.range_succ]
theorem srRowF_zero : srRowF f x st 0 = st := rfl
theorem srRowF_one (h : srRowF f x st j = some L) (hc : f x j = 1) : srRowF f x st (j + 1) = some (L ++ [((x : Int), (j : Int))]) := by rw [srRowF_succ, h, srCode]; rw [if_pos hc]
theorem srRowF_on (h : srRowF f x st j = some L) (hc : ¬ f x j = 1) (hc3 : ¬ f x j = 3) : srRowF f x st (j + 1) = some L := by rw [srRowF_succ, h, srCode]; rw [if_neg hc, if_neg hc3]
theorem srRowF_out (h : srRowF f x st j = some L) (hc : f x j = 3) : srRowF f x st (j + 1) = none := by rw [srRowF_succ, h, srCode]; rw [if_neg (by omega), if_pos hc]
theorem srRowF_none : ∀ k, srRowF f x st j = none → srRowF f x st (j + k) = none
  | 0, h => h
  | k + 1, h => by rw [← Nat.add_assoc, srRowF_succ, srRowF_none k h]; rfl
theorem srRowF_no : srRowF f x none j = none := by
  have := srRowF_none (f := f) (x := x) (st := none) (j := 0) j rfl
  rwa [Nat.zero_add] at this
theorem srAllF_none : ∀ k, srAllF f n i = none → srAllF f n (i + k) = none
  | 0, h => h
  | k + 1, h => by rw [← Nat.add_assoc, srAllF_succ, srAllF_none k h, srRowF_no]
/-- one unknown search -/
theorem srAllF_out (hi : i < n) (hj : j < n) (h : srRowF f i (srAllF f n i) j = some L) (hc : f i j = 3) : srAllF f n n = none := by
  have h1 := srRowF_none (n - (j + 1)) (srRowF_out h hc)
  rw [show j + 1 + (n - (j + 1)) = n by omega] at h1
  have h2 : srAllF f n (i + 1) = none := by rw [srAllF_succ, h1]
  have h3 := srAllF_none (n - (i + 1)) h2
  rwa [show i + 1 + (n - (i + 1)) = n by omega] at h3
theorem srRowF_len (hst : ∀ L, st = some L → L.length ≤ n) : ∀ (j : Nat) (L : List Pr), srRowF f x st j = some L → L.length ≤ n + j
  | 0, L, h => hst L h
  | j + 1, L, h => by
    rw [srRowF_succ] at h
    cases hr : srRowF f x st j with
    | none => rw [hr] at h; cases h
    | some M =>
      have := srRowF_len hst j M hr
      rw [hr, srCode] at h
      split at h
      · injection h with h
        subst h
        rw [List.length_append, List.length_singleton]
        omega
      · split at h
        · cases h
        · injection h with h
          subst h
          omega
theorem srAllF_len : ∀ (i : Nat) (L : List Pr), srAllF f n i = some L → L.length ≤ i * n
  | 0, L, h => by
    injection h with h
    rw [← h]
    simp
  | i + 1, L, h => by
    rw [srAllF_succ] at h
    have := srRowF_len (n := i * n) (srAllF_len i) n L h
    rw [Nat.succ_mul]
    exact this
end
def srchAk (g : Gr) (a : Au) (B : Int) : Bool := (grOk g && auOk a) && wi B 1 20000
def srchC (g : Gr) (a : Au) (B : Int) (sm : Bool) (x y : Nat) : Int := (srchL g a (x : Int) (y : Int) B sm).2
def srchA (g : Gr) (a : Au) (B : Int) (sm : Bool) : Option (List Pr) := if srchAk g a B = true then srAllF (srchC g a B sm) g.vals.length g.vals.length else none
theorem srchA_len {g : Gr} {a : Au} {B : Int} {sm : Bool} {L : List Pr} (h : srchA g a B sm = some L) : L.length ≤ 25 := by
  unfold srchA at h
  split at h
  · rename_i hk
    simp only [srchAk, Bool.and_eq_true] at hk
    have h1 := srAllF_len _ _ h
    have h2 := (grOk_iff.1 hk.1.1).n5
    exact Nat.le_trans h1 (Nat.mul_le_mul h2 h2 : _ ≤ 5 * 5)
  · cases h
theorem srchF_len {g : Gr} {a : Au} {y : Int} {B : Nat} {D : List Int} {sm : Bool} {x s : Nat} {us : List Int} : ∀ (k lf c : Nat), (srchF g a y B D sm x s us k lf c).1.2.length ≤ lf + k
  | 0, lf, c => by simp [srchF]
  | k + 1, lf, c => by
    rw [srchF]
    split
    · have hl := visit_len (g := g) (a := a) (y := y) (B := B) (D := D) (sm := sm) lf x s us c
      split
      · rename_i r c' e
        rw [e] at hl
        have := hl r rfl
        simp only
        omega
      · split
        · simp
        · have := srchF_len (g := g) (a := a) (y := y) (B := B) (D := D) (sm := sm) (x := x) (s := s) (us := us) k (lf + 1)
          rename_i c' _ _
          have := this c'
          omega
    · have := srchF_len (g := g) (a := a) (y := y) (B := B) (D := D) (sm := sm) (x := x) (s := s) (us := us) k (lf + 1) c
      omega
theorem srchL_len (g : Gr) (a : Au) (x y B : Int) (sm : Bool) : (srchL g a x y B sm).1.2.length ≤ 1048576 := by
  unfold srchL
  split
  · rename_i h
    have h1 := srchF_len (g := g) (a := a) (y := y) (B := B.toNat) (D := distTo g a y) (sm := sm) (x := x.toNat) (s := bit a.start.toNat) (us := srchU sm x.toNat) (srchN g sm) 0 0
    simp only [srchOk, cntOk, Bool.and_eq_true] at h
    have hg := grOk_iff.1 h.1.2.2.1
    have hn5 := hg.n5
    have he12 := hg.e12
    have : srchN g sm ≤ 13 := by unfold srchN; split <;> omega
    omega
  · simp
theorem Blk.set2 {w : World} {g : Nat} {t : TypeId} {c0 c1 : Value} (h : Blk w g t #[c0, c1]) (d0 d1 : Value) : Blk ((w.setCell ⟨g, 0, none⟩ d0).setCell ⟨g, 1, none⟩ d1) g t #[d0, d1] := by
  have h2 := (h.set_ 0 d0).set_ 1 d1
  simpa using h2
theorem Only.set2 (w : World) (g : Nat) (d0 d1 : Value) : Only g (g + 1) w ((w.setCell ⟨g, 0, none⟩ d0).setCell ⟨g, 1, none⟩ d1) := ((Only.refl _ _ _).setCell (p := ⟨g, 0, none⟩) (.inl ⟨Nat.le_refl _, Nat.lt_succ_self _⟩) d0).setCell (p := ⟨g, 1, none⟩) (.inl ⟨Nat.le_refl _, Nat.lt_succ_self _⟩) d1
end Go.Proofs.Ytlhpcknpjdeebaa

