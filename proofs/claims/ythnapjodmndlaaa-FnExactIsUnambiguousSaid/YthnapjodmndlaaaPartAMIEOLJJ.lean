/- Parts of the proof, joined into one text: PosX, AmbI, Unam, Rec, Seat. -/
import Derived.Test.YthnapjodmndlaaaPartOLOMJGBB
import Derived.Test.YthnapjodmndlaaaPartIHKFJPHH
import Derived.Test.YthnapjodmndlaaaPartHOGODAKC
import Derived.JoinedOf
import Derived.Test.YthnapjodmndlaaaRows
/- Which position automata are valid (the program's side). -/
namespace Go.Proofs.Ythnapjodmndlaaa
set_option linter.unusedVariables false
set_option linter.unusedSimpArgs false
open Go.ChangeShapes Go.WideShapes Go.ChangeAt Go.RowKit
attribute [local go_sem] ext_cell ext_frozen ext_lt ext_lt1 ext_lt2 ext_lt3 ltn2 ltn3 ltn13 lts1 lts2 lts3

set_option maxHeartbeats 1000000 in
theorem isSet_any (n : Nat) (hn : n ≤ 20) (s : Int) (b : Nat) (W : World) (hc : W.cell? ⟨b, 0, none⟩ = some (.int .i64 (n : Int))) :
    Calls Try.prog 39 #[.int .i64 s, .pointer (some ⟨b, 0, none⟩)] W fun e w' => e = .returned (.bool (setP n s)) ∧ w' = W := by
  have hsh := shl_bit2 (s := n) (by omega)
  have hsh3 := shl_bit3 (s := n) (by omega)
  have hbl : bit n ≤ 2 ^ 20 := Nat.pow_le_pow_right (by decide) hn
  have hsub : IntKind.i64.wrap ((bit n : Int) - 1) = (bit n : Int) - 1 := IntWalk.i64_in _ (by omega)
  have HW := Lib.hid (wi_set hn s)
  go_enter Try.func39, Try.ntmps39
  go_wp2_with fail
  refine (within_any s 0 _ _).mono ?_
  rintro e w' ⟨rfl, rfl⟩
  go_wp2_with fail
  go_ret
  exact ⟨by rw [← HW.out]; rfl, rfl⟩
set_option maxRecDepth 100000 in
set_option maxHeartbeats 4000000 in
theorem implValidPos (v : Value) (p : Pz) (w : World) (hv : PzV 0 w.heap.size w v p) :
    Calls Try.prog 26 #[v] w fun e w' => e = .returned (.bool (pzOk p)) ∧ Below w.heap.size w w' := by
  obtain ⟨R, hR⟩ : ∃ R, R = pzOk p := ⟨_, rfl⟩
  rw [← hR]
  have HR := Lib.hid hR
  clear hR
  obtain ⟨vl, vf, rfl, ⟨A, c, rfl, hl, hm, hC⟩, ⟨B, d, rfl, hl2, hm2, hC2⟩⟩ := hv
  unfold maxLen at hm hm2
  obtain ⟨N, hN⟩ : ∃ N, N = p.lets.length := ⟨_, rfl⟩
  obtain ⟨K, hK⟩ : ∃ K, K = p.fol.length := ⟨_, rfl⟩
  rw [← hN] at hl ⊢
  rw [← hK] at hl2 ⊢
  have HN := Lib.hid hN
  have HK := Lib.hid hK
  obtain ⟨W0, hW0⟩ : ∃ W0, W0 = (w.alloc (.cells #[.slice A N c, .int .i64 p.first, .int .i64 p.last, .slice B K d, .bool p.nul] 27)).alloc (.cells #[.int .i64 (N : Int)] 3) := ⟨_, rfl⟩
  have hbk : Blk W0 w.heap.size 27 #[.slice A N c, .int .i64 p.first, .int .i64 p.last, .slice B K d, .bool p.nul] := by rw [hW0]; exact (Blk.new w _ _ _ rfl).alloc _
  have hbn : Blk W0 (w.heap.size + 1) 3 #[.int .i64 (N : Int)] := by rw [hW0]; exact Blk.new _ _ _ _ (by simp)
  have hb0 : Below w.heap.size w W0 := by rw [hW0]; exact ((Below.refl _ _).alloc (Nat.le_refl _) _).alloc (by simp) _
  have hsz : W0.heap.size = w.heap.size + 2 := by rw [hW0]; simp
  have HB0 := Lib.hid hb0
  have HC := Lib.hid (show ∀ (i : Nat) x, p.lets[i]? = some x → ∃ b o, A = some ⟨b, o, none⟩ ∧ b < w.heap.size ∧ W0.cell? ⟨b, o + i, none⟩ = some (.int .i64 x) from fun i x hx => by
    obtain ⟨b, o, hA, -, hb, hc⟩ := hC i x hx
    refine ⟨b, o, hA, by omega, kcell hb0 ?_⟩
    simpa using hc 0 _ rfl)
  have HC2 := Lib.hid (show ∀ (i : Nat) x, p.fol[i]? = some x → ∃ b o, B = some ⟨b, o, none⟩ ∧ b < w.heap.size ∧ W0.cell? ⟨b, o + i, none⟩ = some (.int .i64 x) from fun i x hx => by
    obtain ⟨b, o, hA, -, hb, hc⟩ := hC2 i x hx
    refine ⟨b, o, hA, by omega, kcell hb0 ?_⟩
    simpa using hc 0 _ rfl)
  clear hN hK hb0 hC hC2
  go_enter Try.func26, Try.ntmps26
  have x0 : W0.cell? ⟨w.heap.size, 0, none⟩ = some (.slice A N c) := by exact hbk.cell 0
  have x1 : W0.cell? ⟨w.heap.size, 1, none⟩ = some (.int .i64 p.first) := by exact hbk.cell 1
  have x2 : W0.cell? ⟨w.heap.size, 2, none⟩ = some (.int .i64 p.last) := by exact hbk.cell 2
  have x3 : W0.cell? ⟨w.heap.size, 3, none⟩ = some (.slice B K d) := by exact hbk.cell 3
  have n0 : W0.cell? ⟨w.heap.size + 1, 0, none⟩ = some (.int .i64 (N : Int)) := by exact hbn.cell 0
  clear hbk hbn
  go_upto_region 2 with fail
  rw [← hW0]
  clear hW0
  have HN0 := Lib.hid n0
  by_cases h20 : N ≤ 20
  · have hgt : ¬ (N : Int) > 20 := by omega
    have hgd : decide ((N : Int) > 20) = false := decide_eq_false hgt
    have HSET := Lib.hid (fun (s : Int) => isSet_any N h20 s (w.heap.size + 1) W0 HN0.out)
    by_cases hKN : K = N
    · subst hKN
      have hkk : ((K : Int) != (K : Int)) = false := by simp
      go_wp2_with fail
      clear hkk hgt hgd
      go_loopw [5, 6, 23] (fun _ _ ii wr => ∃ (i : Nat), i ≤ K ∧ ii = .int .i64 (i : Int) ∧ wr = W0 ∧ okTo p i) (fun _ _ ii _ => K - (intOf ii).toNat)
      case atStart => exact ⟨0, Nat.zero_le _, rfl, rfl, okTo_zero p⟩
      case round =>
        obtain ⟨i, hi, rfl, rfl, hto⟩ := hrel
        have HTO := Lib.hid hto
        clear hto
        by_cases hlt : i < K
        · have hxi : p.lets[i]? = some (p.lets[i]'(by rw [← HN.out]; exact hlt)) := List.getElem?_eq_getElem _
          have hyi : p.fol[i]? = some (p.fol[i]'(by rw [← HK.out]; exact hlt)) := List.getElem?_eq_getElem _
          generalize p.lets[i]'(by rw [← HN.out]; exact hlt) = x at hxi
          generalize p.fol[i]'(by rw [← HK.out]; exact hlt) = y at hyi
          obtain ⟨b1, o1, rfl, hb1, d0⟩ := HC.out i x hxi
          obtain ⟨b2, o2, rfl, hb2, e0⟩ := HC2.out i y hyi
          have HOX := Lib.hid (okTo_step HTO.out hxi hyi)
          have HNX := Lib.hid (okTo_no (p := p) hxi hyi)
          have hii : (i : Int) < (K : Int) := by omega
          have HSY := Lib.hid (HSET.out y)
          have HLX := Lib.hid (isLetter_any x wr)
          clear hxi hyi
          go_wp2_with fail
          refine HLX.out.mono ?_
          rintro e w1 ⟨rfl, rfl⟩
          cases h3 : wi x 0 8 with
          | false =>
            have HF := Lib.hid (show R = false by rw [HR.out]; exact pz_no fun h => HNX.out (.inl h3) h)
            clear h3
            go_wp2_with fail
            go_ret
            exact ⟨by rw [HF.out]; rfl, HB0.out⟩
          | true =>
            have H3 := Lib.hid h3
            clear h3
            go_wp2_with fail
            refine HSY.out.mono ?_
            rintro e w2 ⟨rfl, rfl⟩
            cases h4 : setP K y with
            | false =>
              have HF := Lib.hid (show R = false by rw [HR.out]; exact pz_no fun h => HNX.out (.inr (by rw [← HN.out]; exact h4)) h)
              clear h4
              go_wp2_with fail
              go_ret
              exact ⟨by rw [HF.out]; rfl, HB0.out⟩
            | true =>
              have HNW := Lib.hid (HOX.out H3.out (by rw [← HN.out]; exact h4))
              clear h4
              go_wp2_with fail
              go_roundw
              case rel => exact ⟨i + 1, by omega, by go_num, trivial, HNW.out⟩
              case measure => simp [intOf]; omega
        · obtain rfl : i = K := by omega
          have HS1 := Lib.hid (HSET.out p.first)
          have HS2 := Lib.hid (HSET.out p.last)
          clear hlt
          go_wp2_with fail
          refine HS1.out.mono ?_
          rintro e w1 ⟨rfl, rfl⟩
          cases h1 : setP i p.first with
          | false =>
            have HF := Lib.hid (show R = false by rw [HR.out]; exact pz_no fun h => by have := (pz_facts h).2.2.2.2.1; rw [← HN.out, h1] at this; cases this)
            clear h1
            go_wp2_with fail
            go_ret
            exact ⟨by rw [HF.out]; rfl, HB0.out⟩
          | true =>
            have H1 := Lib.hid h1
            clear h1
            go_wp2_with fail
            refine HS2.out.mono ?_
            rintro e w2 ⟨rfl, rfl⟩
            have HF := Lib.hid (show R = setP i p.last by
              rw [HR.out]
              cases h2 : setP i p.last with
              | false => exact pz_no fun h => by have := (pz_facts h).2.2.2.2.2; rw [← HN.out, h2] at this; cases this
              | true => exact okTo_all (by rw [← HN.out]; exact h20) (by rw [← HK.out, ← HN.out]) (by rw [← HN.out]; exact HTO.out) (by rw [← HN.out]; exact H1.out) (by rw [← HN.out]; exact h2))
            go_wp2_with fail
            go_ret
            exact ⟨by rw [HF.out]; rfl, HB0.out⟩
    · have hkk : ((K : Int) != (N : Int)) = true := by simpa using fun h => hKN (by omega)
      have HF := Lib.hid (show R = false by rw [HR.out]; exact pz_no fun h => hKN (by rw [HK.out, HN.out]; exact (pz_facts h).2.1))
      go_wp2_with fail
      go_ret
      exact ⟨by rw [HF.out]; rfl, HB0.out⟩
  · have hgt : (N : Int) > 20 := by omega
    have hgd : decide ((N : Int) > 20) = true := decide_eq_true hgt
    have hgd2 : decide (20 < N) = true := decide_eq_true (by omega)
    have HF := Lib.hid (show R = false by rw [HR.out]; exact pz_no fun h => h20 (by rw [HN.out]; exact (pz_facts h).1))
    go_wp2_with fail
    go_ret
    exact ⟨by rw [HF.out]; rfl, HB0.out⟩
end Go.Proofs.Ythnapjodmndlaaa

/- The program's AmbiguousWord gives the least ambiguous word. -/
namespace Go.Proofs.Ythnapjodmndlaaa
set_option linter.unusedVariables false
set_option linter.unusedSimpArgs false
open Go.ChangeShapes Go.WideShapes Go.ChangeAt Go.RowKit Go.Maps Go.ChangeMaps
attribute [local go_sem] ext_cell ext_frozen ext_lt ext_lt1 ext_lt2 ext_lt3 ltn2 ltn3 ltn13 lts1 lts2 lts3

/-- the pairs behind a letter, as they are gathered -/
structure TwN (wk wr : World) (vn : Value) (bs : Nat) (N : List Twn) : Prop where
  row : wr.ownsRow wk.heap.size 56 3 vn N.length (N.flatMap cTw)
  seen : TwMap wr bs N.length (seenT N)
  lb : wk.heap.size ≤ bs
  bel : Below wk.heap.size wk wr
structure AwN (lo3 hi3 : Nat) (wr : World) (vn : Value) (bs : Nat) (vN : Value) (NX : List Twn) : Prop where
  a : ∀ b, vn.ownBlock = some b → b < lo3 ∨ hi3 ≤ b
  sl : SlI lo3 hi3 wr cTw 3 vN NX
  le : hi3 ≤ wr.heap.size
  ms : bs < lo3
section
variable {wk wr w4 w5 : World} {vn vn' vN : Value} {bs lo3 hi3 : Nat} {N NX : List Twn} {t : Twn}
theorem TwN.below (h : TwN wk wr vn bs N) (hb : Below wr.heap.size wr w4) : TwN wk w4 vn bs N :=
  ⟨ownsRow_below h.row hb (Nat.le_refl _), h.seen.below hb, h.lb, h.bel.trans (hb.mono h.bel.size)⟩
theorem AwN.below (h : AwN lo3 hi3 wr vn bs vN NX) (hb : Below wr.heap.size wr w4) : AwN lo3 hi3 w4 vn bs vN NX :=
  ⟨h.a, h.sl.below hb h.le, Nat.le_trans h.le hb.size, h.ms⟩
theorem TwN.add (h : TwN wk wr vn bs N) (h4 : TwMap w4 bs (N.length + 1) (updT (seenT N) t (.bool true))) (hg4 : wr.grownBy w4 (some bs)) {o : Obj}
    (hrow : w5.ownsRow wk.heap.size 56 3 vn' (N ++ [t]).length ((N ++ [t]).flatMap cTw)) (hg : (w4.alloc o).grownBy w5 vn.ownBlock) : TwN wk w5 vn' bs (N ++ [t]) := by
  have hs := h.bel.size
  have hs4 := hg4.size
  refine ⟨hrow, ?_, h.lb, ?_⟩
  · rw [← seenT_snoc, List.length_append, List.length_singleton]
    exact h4.block (by rw [hg.block bs (by have := h4.lt; simp; omega) (fun e => h.seen.notRow h.row e.symm), Below.heap_alloc _ _ _ h4.lt])
  · exact ((h.bel.grown hg4 hs (fun b hb => by injection hb with hb; rw [← hb]; exact h.lb)).alloc (by omega) o).grown hg (by simp; omega) (fun b hb => (h.row.lt b hb).1)
theorem AwN.add (h : AwN lo3 hi3 wr vn bs vN NX) (hg4 : wr.grownBy w4 (some bs)) {o : Obj} (hg : (w4.alloc o).grownBy w5 vn.ownBlock) (hat : vn'.ownBlock = vn.ownBlock ∨ ∃ b, vn'.ownBlock = some b ∧ w4.heap.size ≤ b) : AwN lo3 hi3 w5 vn' bs vN NX := by
  have hms := h.ms
  have hle := h.le
  have hs4 := hg4.size
  have hs5 : w4.heap.size ≤ w5.heap.size := by have := hg.size; simp at this; omega
  refine ⟨fun b hb => ?_, h.sl.keep_ fun b o h1 h2 => World.cell?_of_block (w := wr) (a := ⟨b, o, none⟩) ?_, by omega, h.ms⟩
  · rcases hat with e | ⟨c, e, hge⟩
    · exact h.a b (by rw [← e]; exact hb)
    · rw [e] at hb
      cases hb
      exact .inr (by omega)
  · show w5.heap[b]? = wr.heap[b]?
    rw [hg.block b (by simp; omega) (fun e => by have := h.a b e.symm; omega), Below.heap_alloc _ _ _ (by omega), hg4.block b (by omega) (fun e => by injection e; omega)]
end
/-- the pairs now, and the word -/
structure TwW (w2 wr : World) (nn oo : Value) (S : List Twn) (O : List Nat) : Prop where
  now : wr.ownsRow w2.heap.size 56 3 nn S.length (S.flatMap cTw)
  word : wr.ownsRow w2.heap.size 3 1 oo O.length (O.flatMap cN)
  ap : ∀ b, nn.ownBlock = some b → oo.ownBlock ≠ some b
  bel : Below w2.heap.size w2 wr
section
variable {w2 wk wr w4 : World} {nn oo vn v' : Value} {S N : List Twn} {O O' : List Nat} {bs : Nat}
theorem TwW.below (h : TwW w2 wr nn oo S O) (hb : Below wr.heap.size wr w4) : TwW w2 w4 nn oo S O :=
  ⟨ownsRow_below h.now hb (Nat.le_refl _), ownsRow_below h.word hb (Nat.le_refl _), h.ap, h.bel.trans (hb.mono h.bel.size)⟩
theorem TwW.next (h : TwW w2 wk nn oo S O) (hn : TwN wk wr vn bs N) : TwW w2 wr vn oo N O :=
  ⟨ownsRow_mono hn.row h.bel.size, ownsRow_below h.word hn.bel (Nat.le_refl _), fun b hb h2 => by have := (hn.row.lt b hb).1; have := (h.word.lt b h2).2; omega, h.bel.trans (hn.bel.mono h.bel.size)⟩
theorem TwW.push (h : TwW w2 wr nn oo S O) {o : Obj} (hrow : w4.ownsRow w2.heap.size 3 1 v' O'.length (O'.flatMap cN)) (hg : (wr.alloc o).grownBy w4 oo.ownBlock) (hat : v'.ownBlock = oo.ownBlock ∨ ∃ b, v'.ownBlock = some b ∧ wr.heap.size ≤ b) : TwW w2 w4 nn v' S O' := by
  have hs := h.bel.size
  refine ⟨ownsRow_block h.now fun b hb => ?_, hrow, fun b hb h2 => ?_, (h.bel.alloc hs o).grown hg (by simp; omega) (fun b hb => (h.word.lt b hb).1)⟩
  · have h1 := (h.now.lt b hb).2
    rw [hg.block b (by simp; omega) (fun e => h.ap b hb e.symm), Below.heap_alloc _ _ _ h1]
  · rcases hat with e | ⟨c, e, hge⟩
    · exact h.ap b hb (by rw [← e]; exact h2)
    · rw [e] at h2
      cases h2
      have := (h.now.lt b hb).2
      omega
end
set_option maxRecDepth 100000 in
set_option maxHeartbeats 8000000 in
theorem implAmb (v : Value) (p : Pz) (w : World) (hv : PzV 0 w.heap.size w v p) :
    Calls Try.prog 12 #[v] w fun e w' => ∃ vo, e = .returned (.tuple #[vo, .bool (ambT p).2]) ∧ Own w.heap.size w'.heap.size w' 3 cI 1 vo (ambO p) ∧ Below w.heap.size w w' := by
  obtain ⟨R1, hR1⟩ : ∃ R, R = ambO p := ⟨_, rfl⟩
  obtain ⟨R2, hR2⟩ : ∃ R, R = (ambT p).2 := ⟨_, rfl⟩
  rw [← hR1, ← hR2]
  have HR1 := Lib.hid hR1
  have HR2 := Lib.hid hR2
  clear hR1 hR2
  have HV := Lib.hid hv
  have HVP := Lib.hid (fun W (h : Below w.heap.size w W) => implValidPos v p W (hv.keep h))
  obtain ⟨vq, vf, rfl, h1, h2⟩ := hv
  obtain ⟨A, n1, c, rfl⟩ := h1.shape
  obtain ⟨B0, n2, c2, rfl⟩ := h2.shape
  obtain ⟨W0, hW0⟩ : ∃ W0, W0 = w.alloc (.cells #[.slice A n1 c, .int .i64 p.first, .int .i64 p.last, .slice B0 n2 c2, .bool p.nul] 27) := ⟨_, rfl⟩
  have hbp : Blk W0 w.heap.size 27 #[.slice A n1 c, .int .i64 p.first, .int .i64 p.last, .slice B0 n2 c2, .bool p.nul] := by rw [hW0]; exact Blk.new _ _ _ _ rfl
  have hb0 : Below w.heap.size w W0 := by rw [hW0]; exact (Below.refl _ _).alloc (Nat.le_refl _) _
  have hsz : W0.heap.size = w.heap.size + 1 := by rw [hW0]; simp
  have HBP := Lib.hid hbp
  have HB0 := Lib.hid hb0
  have x0 : W0.cell? ⟨w.heap.size, 0, none⟩ = some (.slice A n1 c) := by exact hbp.cell 0
  have x1 : W0.cell? ⟨w.heap.size, 1, none⟩ = some (.int .i64 p.first) := by exact hbp.cell 1
  have x2 : W0.cell? ⟨w.heap.size, 2, none⟩ = some (.int .i64 p.last) := by exact hbp.cell 2
  have x3 : W0.cell? ⟨w.heap.size, 3, none⟩ = some (.slice B0 n2 c2) := by exact hbp.cell 3
  have x4 : W0.cell? ⟨w.heap.size, 4, none⟩ = some (.bool p.nul) := by exact hbp.cell 4
  have hl0 : w.heap.size < W0.heap.size := by omega
  clear h1 h2 hbp hb0
  go_enter Try.func12, Try.ntmps12
  go_upto_region 1 with fail
  rw [← hW0]
  clear hW0
  go_wp2_with fail
  refine (HVP.out _ HB0.out).mono ?_
  rintro e w1 ⟨rfl, hb1⟩
  have x0 := kcell hb1 x0
  have x1 := kcell hb1 x1
  have x2 := kcell hb1 x2
  have x3 := kcell hb1 x3
  have x4 := kcell hb1 x4
  have hl0 := Nat.lt_of_lt_of_le hl0 hb1.size
  have HB1 := Lib.hid (below_trans HB0.out hb1)
  have HBP := Lib.hid (HBP.out.keep hb1)
  clear hb1
  cases hok : pzOk p with
  | false =>
    have hE : ambT p = ([], false) := by rw [ambT, hok]; rfl
    have e1 : R1 = [] := by rw [HR1.out, ambO, hE]; rfl
    have e2 : R2 = false := by rw [HR2.out, hE]
    subst e1 e2
    clear hE HR1 HR2
    go_wp2_with fail
    go_ret2
    exact ⟨_, rfl, Own.nil _ _ _ _ _ _, HB1.out⟩
  | true =>
    have HOK := Lib.hid hok
    have HAT := Lib.hid (show ambT p = if dT p 0 < 0 then ([], false) else (ambW p, true) by rw [ambT, hok]; rfl)
    clear hok
    go_wp2_with fail
    refine (implTwinD _ p _ (HV.out.keep HB1.out) HOK.out).mono ?_
    rintro e w2 ⟨bd, md, f, rfl, hbd, hmap, hf, hd2000, hb2⟩
    have h20 := (pz_facts HOK.out).1
    have H20 := Lib.hid h20
    have HMAP := Lib.hid hmap
    have HF := Lib.hid hf
    have HB2 := Lib.hid (below_trans HB1.out hb2)
    have HBP := Lib.hid (HBP.out.keep hb2)
    have hbdw := hmap.lt
    have hs2 := hb2.size
    have he0 : (0, 0, false) ∈ endT p := List.mem_of_getElem? (endT_start p)
    have hi0 : idxT p (0, 0, false) = 0 := idx_at (endT_start p)
    have HE0 := Lib.hid he0
    have HI0 := Lib.hid hi0
    have hNpos : 0 < (endT p).length := (List.getElem?_eq_some_iff.1 (endT_start p)).1
    have hN882 : (endT p).length ≤ 882 := by rw [endT]; exact allT_len h20 882
    have hd20 := hd2000 0 hNpos
    have HLK := Lib.hid (hmap.look_ok Try.underlying52 (z := .int .i64 0) (Try.zeroValue3 w2) rfl (t := (0, 0, false)) ⟨by decide, by decide⟩)
    clear hmap hf hb2 x0 x1 x2 x3 x4 hl0 h20 he0 hi0 hd2000
    by_cases hneg : dT p 0 < 0
    · have hE : ambT p = ([], false) := by rw [HAT.out, if_pos hneg]
      have e1 : R1 = [] := by rw [HR1.out, ambO, hE]; rfl
      have e2 : R2 = false := by rw [HR2.out, hE]
      subst e1 e2
      have hlk : (Instr.lookup 52 (.map (some bd)) (.agg #[.int .i64 0, .int .i64 0, .bool false]) true).run Try.prog w2 = .ok (.tuple #[.int .i64 0, .bool false]) w2 := by
        have h := HLK.out
        rw [HF.out, HI0.out, if_neg (fun h2 => by omega)] at h
        exact h
      clear hE HR1 HR2 HAT HLK
      go_wp2_with fail
      go_ret2
      exact ⟨_, rfl, Own.nil _ _ _ _ _ _, HB2.out⟩
    · have hE : ambT p = (ambW p, true) := by rw [HAT.out, if_neg hneg]
      have e2 : R2 = true := by rw [HR2.out, hE]
      subst e2
      have HR1 := Lib.hid (show R1 = (ambW p).map fun n : Nat => (n : Int) by rw [HR1.out, ambO, hE])
      clear hE HR2 HAT
      obtain ⟨n0, hn0⟩ : ∃ n0 : Nat, n0 = (dT p 0).toNat := ⟨_, rfl⟩
      have hd0 : dT p 0 = (n0 : Int) := by omega
      have HAW := Lib.hid (show ambW p = wordT 9 (nxI p) (dT p) n0 [0] by rw [ambW, hn0])
      have hlk : (Instr.lookup 52 (.map (some bd)) (.agg #[.int .i64 0, .int .i64 0, .bool false]) true).run Try.prog w2 = .ok (.tuple #[.int .i64 (n0 : Int), .bool true]) w2 := by
        have h := HLK.out
        rw [HF.out, HI0.out, if_pos ⟨List.contains_iff_mem.2 HE0.out, by omega⟩, hd0] at h
        exact h
      have HD0 := Lib.hid hd0
      clear hneg hn0 hd0 HLK
      have hn2000 : n0 ≤ 2000 := by have := HD0.out; omega
      have hst : TwW w2 ((w2.alloc (.cells #[] 3)).alloc (.cells #[.int .i64 0, .int .i64 0, .bool false] 56)) (.slice (some ⟨w2.heap.size + 1, 0, none⟩) 1 1) (.slice (some ⟨w2.heap.size, 0, none⟩) 0 0) [(0, 0, false)] [] := by
        refine ⟨?_, ?_, ?_, ((Below.refl _ _).alloc (Nat.le_refl _) _).alloc (by simp) _⟩
        · have h := World.ownsRow_lit (base := w2.heap.size) (e := 56) (size := 3) (w2.alloc (.cells #[] 3)) #[.int .i64 0, .int .i64 0, .bool false] 1 (by simp) (by decide) rfl
          have e : (w2.alloc (.cells #[] 3)).heap.size = w2.heap.size + 1 := by simp
          rw [e] at h
          exact h
        · exact (World.ownsRow_lit (base := w2.heap.size) (e := 3) (size := 1) w2 #[] 0 (Nat.le_refl _) (by decide) rfl).alloc _
        · intro b h1 h2
          have h1 : some (w2.heap.size + 1) = some b := h1
          have h2 : some w2.heap.size = some b := h2
          cases h1
          injection h2 with h2
          omega
      have HST := Lib.hid hst
      clear hst hd20
      go_wp2_with fail
      clear hlk
      go_loopw [5, 7, 8, 9, 10, 11, 13, 15, 16, 17] (fun ll oo nn _ _ _ _ _ _ _ wr => ∃ (n : Nat) (S : List Twn) (O : List Nat), ll = .int .i64 (n : Int) ∧ O.length + n = n0 ∧ TwW w2 wr nn oo S O ∧ S ≠ [] ∧ S.Nodup ∧ (∀ t ∈ S, t ∈ endT p) ∧ (∀ t ∈ S, dT p (idxT p t) = (n : Int)) ∧ O ++ wordT 9 (nxI p) (dT p) n (S.map (idxT p)) = ambW p) (fun ll _ _ _ _ _ _ _ _ _ _ => (intOf ll).toNat)
      case atStart => exact ⟨n0, [(0, 0, false)], [], rfl, by simp, HST.out, by simp, by simp, (fun t ht => by rw [List.mem_singleton] at ht; rw [ht]; exact HE0.out), (fun t ht => by rw [List.mem_singleton] at ht; rw [ht, HI0.out]; exact HD0.out), by rw [HAW.out]; simp [HI0.out]⟩
      case round =>
        clear HST
        obtain ⟨n, S, O, rfl, hon, htw, hne, hnd, hse, hsd, haw⟩ := hrel
        obtain ⟨wo, rfl⟩ : ∃ wo : World, wo = wr := ⟨_, rfl⟩
        have HTW := Lib.hid htw
        have HNE := Lib.hid hne
        have HSE := Lib.hid hse
        have HSD := Lib.hid hsd
        have HOA := Lib.hid haw
        have HON := Lib.hid hon
        have hoL : O.length ≤ 2000 := by omega
        have hn8 : n ≤ 2000 := by omega
        have hSl := sub_len H20.out hnd hse
        obtain ⟨A9, n9, c9, rfl⟩ := (Own.of_row htw.word rfl rfl).shape
        clear hne hnd hse hsd haw hon
        by_cases hz0 : n = 0
        · subst hz0
          have HRW := Lib.hid htw.word
          have HBF := Lib.hid (HB2.out.trans (htw.bel.mono HB2.out.size))
          have hRE : R1 = O.map fun n : Nat => (n : Int) := by rw [HR1.out, ← HOA.out, wordT, List.append_nil]
          clear htw
          go_wp2_with fail
          go_ret2
          refine ⟨_, rfl, ?_, HBF.out⟩
          have h := HRW.out
          rw [flatN] at h
          exact (Own.of_row h (by rw [hRE, List.length_map]) (by rw [hRE])).mono HB2.out.size (Nat.le_refl _)
        · obtain ⟨m, hm⟩ : ∃ m, n = m + 1 := ⟨n - 1, by omega⟩
          have hwr1 : IntKind.i64.wrap ((n : Int) - 1) = (m : Int) := by rw [IntWalk.i64_in _ (by omega)]; omega
          have hmp : (0 : Int) < (n : Int) := by omega
          have hm8 : m ≤ 2000 := by omega
          have hmn : m < n := by omega
          have hmp3 : 0 < n := by omega
          have hmp4 : decide (0 < n) = true := by simpa using hmp3
          rw [hm] at HOA HSD HON
          clear hm hz0
          obtain ⟨gn, cn, rfl, hgn1, hgn2, -, -⟩ := own_some htw.now (by have := List.length_pos_iff.2 HNE.out; omega)
          clear htw hgn2
          go_wp2_with fail
          go_loopw [7, 8, 9, 10, 11, 13, 15, 16, 17] (fun oo nn kk _ _ _ _ _ _ wr => ∃ k : Nat, k ≤ 9 ∧ kk = .int .i64 (k : Int) ∧ oo = .slice A9 n9 c9 ∧ nn = .slice (some ⟨gn, 0, none⟩) S.length cn ∧ TwW w2 wr (.slice (some ⟨gn, 0, none⟩) S.length cn) (.slice A9 n9 c9) S O ∧ ∀ j, j < k → ∀ x, ¬ ldB p S m j x) (fun _ _ kk _ _ _ _ _ _ _ => 9 - (intOf kk).toNat)
          case atStart => exact ⟨0, by omega, rfl, rfl, rfl, HTW.out, fun j hj => by omega⟩
          case round =>
            clear HTW
            obtain ⟨k, hk, rfl, rfl, rfl, htw, hno⟩ := hrel
            obtain ⟨wk, rfl⟩ : ∃ wk : World, wk = wr := ⟨_, rfl⟩
            have HTW := Lib.hid htw
            have HNO := Lib.hid hno
            clear hno
            by_cases hk9 : k < 9
            · have hmm := @run_makeMap Try.prog
              have hkk : (k : Int) < 9 := by omega
              have hini : TwN wk ((wk.alloc (.cells #[] 56)).alloc (.map #[] 0)) (.slice (some ⟨wk.heap.size, 0, none⟩) 0 0) (wk.heap.size + 1) [] := by
                have e : (wk.alloc (.cells #[] 56)).heap.size = wk.heap.size + 1 := by simp
                have h1 := TwMap.made (wk.alloc (.cells #[] 56))
                rw [e] at h1
                exact ⟨(World.ownsRow_lit (base := wk.heap.size) (e := 56) (size := 3) wk #[] 0 (Nat.le_refl _) (by decide) rfl).alloc _, h1.ext fun t _ => rfl, by omega, ((Below.refl _ _).alloc (Nat.le_refl _) _).alloc (by simp) _⟩
              have HINI := Lib.hid hini
              have hw2k := htw.bel.size
              have HBK := Lib.hid (HB2.out.trans (htw.bel.mono HB2.out.size))
              have HBPk := Lib.hid (show Blk wk w.heap.size 27 #[.slice A n1 c, .int .i64 p.first, .int .i64 p.last, .slice B0 n2 c2, .bool p.nul] from (htw.bel.block w.heap.size HBP.out.lt).trans HBP.out)
              have HMK := Lib.hid (HMAP.out.block (htw.bel.block bd hbdw))
              have hbdk : bd < wk.heap.size := by omega
              have hplk : w.heap.size < wk.heap.size := HBPk.out.lt
              clear hini htw
              go_wp2_with fail
              obtain ⟨bs, hbs⟩ : ∃ bs, bs = wk.heap.size + 1 := ⟨_, rfl⟩
              rw [← hbs] at HINI ⊢
              have HBS := Lib.hid hbs
              clear hbs
              go_loopw [10, 13, 15, 16, 17, 46] (fun vn _ _ _ _ ii wr => ∃ (i : Nat) (N : List Twn), i ≤ S.length ∧ ii = .int .i64 (i : Int) ∧ TwN wk wr vn bs N ∧ N.Nodup ∧ ∀ y, y ∈ N ↔ ldB p (S.take i) m k y) (fun _ _ _ _ _ ii _ => S.length - (intOf ii).toNat)
              case atStart => exact ⟨0, [], Nat.zero_le _, rfl, HINI.out, by simp, fun y => by simp [ldB]⟩
              case round =>
                clear HINI
                obtain ⟨i, N, hi, rfl, htn, hnd, hmem⟩ := hrel
                have HTN := Lib.hid htn
                have HND := Lib.hid hnd
                have HME := Lib.hid hmem
                have hws := htn.bel.size
                clear hnd hmem
                by_cases hlt : i < S.length
                · have hat : S[i]? = some (S[i]'hlt) := List.getElem?_eq_getElem hlt
                  obtain ⟨⟨ta, tb, td⟩, ht⟩ : ∃ t, t = S[i]'hlt := ⟨_, rfl⟩
                  rw [← ht] at hat
                  have hte := HSE.out _ (List.mem_of_getElem? hat)
                  have HLT := Lib.hid (fun x => ld_take (p := p) (m := m) (k := k) hat x)
                  obtain ⟨hta, htb⟩ : ta ≤ 20 ∧ tb ≤ 20 := by
                    have h1 := hte
                    rw [endT] at h1
                    exact allT_low (i := 882) H20.out h1
                  obtain ⟨b1, o1, e1, hb1, hb2, q0, q1, q2⟩ := ((Own.of_row HTW.out.now rfl rfl).sl cTw_len).tw hat
                  cases e1
                  have q0 := (htn.bel.cell (p := ⟨gn, 0 + i * 3, none⟩) hb2).trans q0
                  have q1 := (htn.bel.cell (p := ⟨gn, 0 + i * 3 + 1, none⟩) hb2).trans q1
                  have q2 := (htn.bel.cell (p := ⟨gn, 0 + i * 3 + 2, none⟩) hb2).trans q2
                  rw [Nat.zero_add] at q0 q1 q2
                  simp only at q0 q1 q2
                  have HTE := Lib.hid hte
                  have hii : (i : Int) < (S.length : Int) := by omega
                  have hgnw : gn < wr.heap.size := by omega
                  obtain ⟨gv, mv, cv, rfl⟩ := (Own.of_row htn.row rfl rfl).shape
                  clear hat ht hte htn
                  go_upto_region 19 with fail
                  obtain ⟨X0, hX0⟩ : ∃ X, X = wr.alloc (.cells #[.int .i64 (ta : Int), .int .i64 (tb : Int), .bool td] 56) := ⟨_, rfl⟩
                  obtain ⟨zb, hzb⟩ : ∃ z, z = wr.heap.size := ⟨_, rfl⟩
                  have hbz : Blk X0 zb 56 #[.int .i64 (ta : Int), .int .i64 (tb : Int), .bool td] := by rw [hX0]; exact Blk.new _ _ _ _ hzb
                  have hbX : Below wr.heap.size wr X0 := by rw [hX0]; exact (Below.refl _ _).alloc (Nat.le_refl _) _
                  rw [← hX0, ← hzb]
                  have HTN := Lib.hid (HTN.out.below hbX)
                  have hbp : Blk X0 w.heap.size 27 #[.slice A n1 c, .int .i64 p.first, .int .i64 p.last, .slice B0 n2 c2, .bool p.nul] := (HTN.out.bel.block w.heap.size hplk).trans HBPk.out
                  have HBX := Lib.hid (HBK.out.trans (HTN.out.bel.mono HBK.out.size))
                  have z0 : X0.cell? ⟨zb, 0, none⟩ = some (.int .i64 (ta : Int)) := by exact hbz.cell 0
                  have z1 : X0.cell? ⟨zb, 1, none⟩ = some (.int .i64 (tb : Int)) := by exact hbz.cell 1
                  have z2 : X0.cell? ⟨zb, 2, none⟩ = some (.bool td) := by exact hbz.cell 2
                  have x0 : X0.cell? ⟨w.heap.size, 0, none⟩ = some (.slice A n1 c) := by exact hbp.cell 0
                  have x1 : X0.cell? ⟨w.heap.size, 1, none⟩ = some (.int .i64 p.first) := by exact hbp.cell 1
                  have x2 : X0.cell? ⟨w.heap.size, 2, none⟩ = some (.int .i64 p.last) := by exact hbp.cell 2
                  have x3 : X0.cell? ⟨w.heap.size, 3, none⟩ = some (.slice B0 n2 c2) := by exact hbp.cell 3
                  have x4 : X0.cell? ⟨w.heap.size, 4, none⟩ = some (.bool p.nul) := by exact hbp.cell 4
                  have hl0 := hbp.lt
                  have hzl := hbz.lt
                  clear hbp hbz hbX hX0 q0 q1 q2 hzb hgnw
                  go_wp2_with fail
                  refine (twinNext ta tb td _ p k _ (HV.out.keep HBX.out) HOK.out hta htb).mono ?_
                  rintro e wA ⟨vN, rfl, hoN, hbA⟩
                  obtain ⟨AN, cN', rfl, hlN, hmN, -⟩ := hoN.sl cTw_len
                  obtain ⟨NX, hNX⟩ : ∃ NX, NX = twnX p k (ta, tb, td) := ⟨_, rfl⟩
                  rw [← hNX] at hoN hlN ⊢
                  have hX0s := HTN.out.bel.size
                  have haw : AwN X0.heap.size wA.heap.size wA (.slice gv mv cv) bs (.slice AN NX.length cN') NX :=
                    ⟨fun b hb => .inl (HTN.out.row.lt b hb).2, hoN.sl cTw_len, Nat.le_refl _, HTN.out.seen.lt⟩
                  have HAW := Lib.hid haw
                  have HTN := Lib.hid (HTN.out.below hbA)
                  have HNX := Lib.hid hNX
                  unfold maxLen at hmN
                  have hNl : NX.length ≤ 441 := by rw [hNX]; exact twnX_len _ _ _
                  obtain ⟨lo3, hlo3⟩ : ∃ l, l = X0.heap.size := ⟨_, rfl⟩
                  obtain ⟨hi3, hhi3⟩ : ∃ l, l = wA.heap.size := ⟨_, rfl⟩
                  rw [← hlo3, ← hhi3] at HAW
                  clear haw hoN hbA hNX hlo3 hhi3 z0 z1 z2 x0 x1 x2 x3 x4 hl0 hzl hX0s hws
                  go_wp2_with fail
                  go_loopw [10, 15, 16, 17, 55] (fun vn _ _ _ jj wr => ∃ (j : Nat) (N : List Twn), j ≤ NX.length ∧ jj = .int .i64 (j : Int) ∧ TwN wk wr vn bs N ∧ AwN lo3 hi3 wr vn bs (.slice AN NX.length cN') NX ∧ N.Nodup ∧ ∀ y, y ∈ N ↔ ldB p (S.take i) m k y ∨ (y ∈ NX.take j ∧ dT p (idxT p y) = (m : Int))) (fun _ _ _ _ jj _ => NX.length - (intOf jj).toNat)
                  case atStart => exact ⟨0, N, Nat.zero_le _, rfl, HTN.out, HAW.out, HND.out, fun y => by rw [HME.out y]; simp⟩
                  case round =>
                    clear HTN HAW HND HME
                    obtain ⟨j, N, hj, rfl, htn, haw, hnd, hmem⟩ := hrel
                    have HTN := Lib.hid htn
                    have HAW := Lib.hid haw
                    have HND := Lib.hid hnd
                    have HME := Lib.hid hmem
                    have hws := htn.bel.size
                    by_cases hlj : j < NX.length
                    · have hat : NX[j]? = some (NX[j]'hlj) := List.getElem?_eq_getElem hlj
                      obtain ⟨⟨xa, xb, xd⟩, hx⟩ : ∃ x, x = NX[j]'hlj := ⟨_, rfl⟩
                      rw [← hx] at hat
                      have hxm : (xa, xb, xd) ∈ twnX p k (ta, tb, td) := by rw [← HNX.out]; exact List.mem_of_getElem? hat
                      obtain ⟨⟨hxa1, hxa2⟩, ⟨hxb1, hxb2⟩, -⟩ := twnX_in hxm H20.out
                      simp only at hxa1 hxa2 hxb1 hxb2
                      have HXE := Lib.hid (twn_next2 H20.out HTE.out hk9 hxm)
                      have HTK := Lib.hid (show NX.take (j + 1) = NX.take j ++ [(xa, xb, xd)] by rw [List.take_add_one, hat]; rfl)
                      obtain ⟨bn, on, en, hbn1, hbn2, q0, q1, q2⟩ := haw.sl.tw hat
                      simp only at q0 q1 q2
                      subst en
                      have hbnw : bn < wr.heap.size := by have := haw.le; omega
                      have hjj : (j : Int) < (NX.length : Int) := by omega
                      obtain ⟨A7, n7, c7, rfl⟩ := (Own.of_row htn.row rfl rfl).shape
                      obtain ⟨dx, hdx⟩ : ∃ d, d = dT p (idxT p (xa, xb, xd)) := ⟨_, rfl⟩
                      have HSK := Lib.hid (show dx ≠ (m : Int) ∨ (xa, xb, xd) ∈ N → ∀ y, y ∈ N ↔ ldB p (S.take i) m k y ∨ (y ∈ NX.take (j + 1) ∧ dT p (idxT p y) = (m : Int)) from fun hor y => by
                        rw [HTK.out, hmem y, List.mem_append, List.mem_singleton]
                        constructor
                        · rintro (h1 | ⟨h1, h2⟩)
                          · exact .inl h1
                          · exact .inr ⟨.inl h1, h2⟩
                        · rintro (h1 | ⟨h1 | h1, h2⟩)
                          · exact .inl h1
                          · exact .inr ⟨h1, h2⟩
                          · rw [h1] at h2 ⊢
                            rcases hor with h3 | h3
                            · exact absurd (hdx.trans h2) h3
                            · exact (hmem _).1 h3)
                      have HAD := Lib.hid (show dx = (m : Int) → ∀ y, y ∈ N ++ [(xa, xb, xd)] ↔ ldB p (S.take i) m k y ∨ (y ∈ NX.take (j + 1) ∧ dT p (idxT p y) = (m : Int)) from fun he y => by
                        rw [HTK.out, List.mem_append, hmem y, List.mem_append, List.mem_singleton]
                        constructor
                        · rintro ((h1 | ⟨h1, h2⟩) | h1)
                          · exact .inl h1
                          · exact .inr ⟨.inl h1, h2⟩
                          · exact .inr ⟨.inr h1, by rw [h1, ← hdx]; exact he⟩
                        · rintro (h1 | ⟨h1 | h1, h2⟩)
                          · exact .inl (.inl h1)
                          · exact .inl (.inr ⟨h1, h2⟩)
                          · exact .inr h1)
                      have HDX := Lib.hid hdx
                      clear hx hat hxm htn haw hnd hmem hdx
                      go_upto_region 22 with fail
                      obtain ⟨X1, hX1⟩ : ∃ X, X = wr.alloc (.cells #[.int .i64 (xa : Int), .int .i64 (xb : Int), .bool xd] 56) := ⟨_, rfl⟩
                      obtain ⟨zx, hzx⟩ : ∃ z, z = wr.heap.size := ⟨_, rfl⟩
                      have hbz : Blk X1 zx 56 #[.int .i64 (xa : Int), .int .i64 (xb : Int), .bool xd] := by rw [hX1]; exact Blk.new _ _ _ _ hzx
                      have hbX : Below wr.heap.size wr X1 := by rw [hX1]; exact (Below.refl _ _).alloc (Nat.le_refl _) _
                      rw [← hX1, ← hzx]
                      have hbsz : bs < zx := by rw [hzx]; exact HTN.out.seen.lt
                      have HTN := Lib.hid (HTN.out.below hbX)
                      have HAW := Lib.hid (HAW.out.below hbX)
                      have z0 : X1.cell? ⟨zx, 0, none⟩ = some (.int .i64 (xa : Int)) := by exact hbz.cell 0
                      have z1 : X1.cell? ⟨zx, 1, none⟩ = some (.int .i64 (xb : Int)) := by exact hbz.cell 1
                      have z2 : X1.cell? ⟨zx, 2, none⟩ = some (.bool xd) := by exact hbz.cell 2
                      have hzl := hbz.lt
                      have HBZ := Lib.hid hbz
                      have HLK := Lib.hid ((HMK.out.block (HTN.out.bel.block bd hbdk)).look_ok Try.underlying52 (z := .int .i64 0) (Try.zeroValue3 X1) rfl (t := (xa, xb, xd)) ⟨hxa2, hxb2⟩)
                      have HLS := Lib.hid (HTN.out.seen.look Try.underlying58 (z := .bool false) (Try.zeroValue4 X1) rfl (t := (xa, xb, xd)) ⟨hxa2, hxb2⟩)
                      clear hbz hbX hX1 hzx q0 q1 q2 hbnw hws
                      by_cases hneg : dx < 0
                      · have hlk : (Instr.lookup 52 (.map (some bd)) (.agg #[.int .i64 (xa : Int), .int .i64 (xb : Int), .bool xd]) true).run Try.prog X1 = .ok (.tuple #[.int .i64 0, .bool false]) X1 := by
                          have h := HLK.out
                          rw [HF.out, if_neg (fun h2 => by have := h2.2; rw [← HDX.out] at this; omega)] at h
                          exact h
                        have HS2 := Lib.hid (HSK.out (.inl (by omega)))
                        clear HLK
                        go_wp2_with fail
                        go_roundw
                        case rel => exact ⟨j + 1, N, by omega, by go_num, HTN.out, HAW.out, HND.out, HS2.out⟩
                        case measure => simp [intOf]; omega
                      · have hlk : (Instr.lookup 52 (.map (some bd)) (.agg #[.int .i64 (xa : Int), .int .i64 (xb : Int), .bool xd]) true).run Try.prog X1 = .ok (.tuple #[.int .i64 dx, .bool true]) X1 := by
                          have h := HLK.out
                          rw [HF.out, if_pos ⟨List.contains_iff_mem.2 HXE.out, by rw [← HDX.out]; omega⟩, ← HDX.out] at h
                          exact h
                        clear HLK
                        by_cases hdm : dx = (m : Int)
                        · subst hdm
                          by_cases hin : (xa, xb, xd) ∈ N
                          · have hls : (Instr.lookup 58 (.map (some bs)) (.agg #[.int .i64 (xa : Int), .int .i64 (xb : Int), .bool xd]) false).run Try.prog X1 = .ok (.bool true) X1 := by
                              have h := HLS.out
                              rw [seenT, if_pos (List.contains_iff_mem.2 hin)] at h
                              exact h
                            have HS2 := Lib.hid (HSK.out (.inr hin))
                            clear HLS hin
                            go_wp2_with fail
                            go_roundw
                            case rel => exact ⟨j + 1, N, by omega, by go_num, HTN.out, HAW.out, HND.out, HS2.out⟩
                            case measure => simp [intOf]; omega
                          · have hls : (Instr.lookup 58 (.map (some bs)) (.agg #[.int .i64 (xa : Int), .int .i64 (xb : Int), .bool xd]) false).run Try.prog X1 = .ok (.bool false) X1 := by
                              have h := HLS.out
                              rw [seenT, if_neg (fun e => hin (List.contains_iff_mem.1 e))] at h
                              exact h
                            have HS2 := Lib.hid (HAD.out rfl)
                            have HND2 := Lib.hid (show (N ++ [(xa, xb, xd)]).Nodup by
                              rw [List.nodup_append]
                              exact ⟨HND.out, by simp, fun b hb c hc e => hin (by rw [List.mem_singleton] at hc; rw [← hc, ← e]; exact hb)⟩)
                            have hNl2 : N.length ≤ 882 := sub_len H20.out HND.out (fun y hy => by
                              rcases (HME.out y).1 hy with h1 | ⟨h1, -⟩
                              · exact ld_end H20.out (fun t ht => HSE.out t (List.mem_of_mem_take ht)) hk9 h1
                              · exact twn_next2 H20.out HTE.out hk9 (by rw [← HNX.out]; exact List.mem_of_mem_take h1))
                            have hmx : N.length < maxLen := by unfold maxLen; omega
                            have qb1 : (N.length + 1) * 24 ≤ 140737488355328 := by omega
                            have HLO := Lib.hid (show twLow (xa, xb, xd) from ⟨hxa2, hxb2⟩)
                            clear HLS hin
                            go_upto_region 25 with (at_mapUpdate; (refine wpList_put_tw rfl _ _ _ 58 rfl Try.underlying58 HTN.out.seen hmx (t := (xa, xb, xd)) HLO.out (u := .bool true) rfl rfl rfl rfl ?_); intro w4 hm4 hg4; have HM4 := Lib.hid hm4; have HG4 := Lib.hid hg4; clear hm4 hg4)
                            have hbz4 : Blk w4 zx 56 #[.int .i64 (xa : Int), .int .i64 (xb : Int), .bool xd] := (HG4.out.block zx hzl (fun e => by injection e; omega)).trans HBZ.out
                            have z0 : w4.cell? ⟨zx, 0, none⟩ = some (.int .i64 (xa : Int)) := by exact hbz4.cell 0
                            have z1 : w4.cell? ⟨zx, 1, none⟩ = some (.int .i64 (xb : Int)) := by exact hbz4.cell 1
                            have z2 : w4.cell? ⟨zx, 2, none⟩ = some (.bool xd) := by exact hbz4.cell 2
                            have hzl4 := hbz4.lt
                            have HRW := Lib.hid (ownsRow_block HTN.out.row fun b hb => HG4.out.block b (HTN.out.row.lt b hb).2 (fun e => HTN.out.seen.notRow HTN.out.row (by rw [hb, ← e])))
                            have qb2 : wk.heap.size ≤ w4.heap.size := Nat.le_trans HTN.out.bel.size HG4.out.size
                            clear hbz4 hlk hls
                            go_wp2_with (at_builtin; (refine wpList_append1 cTw elTw rfl _ _ rfl wk.heap.size _ N (xa, xb, xd) _ 1 _ (by rfl) HRW.out (by rfl) rfl rfl rfl (cTw_one _) qb1 (by decide) qb2 ?_); intro v5 w5 hrow5 hb5 hat5 hgr5)
                            go_roundw
                            case rel => exact ⟨j + 1, N ++ [(xa, xb, xd)], by omega, by go_num, HTN.out.add HM4.out HG4.out hrow5 hgr5, HAW.out.add HG4.out hgr5 hat5, HND2.out, HS2.out⟩
                            case measure => simp [intOf]; omega
                        · have HS2 := Lib.hid (HSK.out (.inl hdm))
                          have hdb : (dx == (m : Int)) = false := by simpa using hdm
                          go_wp2_with fail
                          go_roundw
                          case rel => exact ⟨j + 1, N, by omega, by go_num, HTN.out, HAW.out, HND.out, HS2.out⟩
                          case measure => simp [intOf]; omega
                    · obtain rfl : NX.length = j := by omega
                      have HM2 := Lib.hid (show ∀ y, y ∈ N ↔ ldB p (S.take (i + 1)) m k y from fun y => by rw [HME.out y, HLT.out y, List.take_length, HNX.out])
                      clear htn haw hnd hmem
                      go_wp2_with fail
                      go_roundw
                      case rel => exact ⟨i + 1, N, by omega, by go_num, HTN.out, HND.out, HM2.out⟩
                      case measure => simp [intOf]; omega
                · obtain rfl : S.length = i := by omega
                  have HM2 := Lib.hid (show ∀ y, y ∈ N ↔ ldB p S m k y from fun y => by rw [HME.out y, List.take_length])
                  cases N with
                  | nil =>
                    obtain ⟨A7, c7, hv7, hl7, hm7, -⟩ := (Own.of_row (xs := ([] : List Twn)) htn.row rfl rfl).sl cTw_len
                    subst hv7
                    have HTW2 := Lib.hid (show TwW w2 wr (.slice (some ⟨gn, 0, none⟩) S.length cn) (.slice A9 n9 c9) S O from HTW.out.below htn.bel)
                    have HNO2 := Lib.hid (show ∀ j, j < k + 1 → ∀ x, ¬ ldB p S m j x from fun j hj x hx => by
                      by_cases hjk : j = k
                      · subst hjk
                        have := (HM2.out x).2 hx
                        simp at this
                      · exact HNO.out j (by omega) x hx)
                    clear htn
                    simp only [List.length_nil] at *
                    go_wp2_with fail
                    go_roundw
                    case rel => exact ⟨k + 1, by omega, by go_num, rfl, rfl, HTW2.out, HNO2.out⟩
                    case measure => simp [intOf]; omega
                  | cons x N =>
                    obtain ⟨A7, c7, hv7, hl7, hm7, -⟩ := (Own.of_row htn.row rfl rfl).sl cTw_len
                    subst hv7
                    have hpos : 0 < (x :: N).length := by simp
                    obtain ⟨NL, hNL⟩ : ∃ NL, NL = x :: N := ⟨_, rfl⟩
                    rw [← hNL] at hpos HM2 HND HTN
                    have HTW2 := Lib.hid (HTW.out.next HTN.out)
                    have HNE2 := Lib.hid (show NL ≠ [] by rw [hNL]; simp)
                    have HNX2 := Lib.hid (amb_letter HSE.out hk9 HM2.out HNE2.out HNO.out)
                    have HSE2 := Lib.hid (show ∀ t ∈ NL, t ∈ endT p from fun t ht => ld_end H20.out HSE.out hk9 ((HM2.out t).1 ht))
                    have HSD2 := Lib.hid (show ∀ t ∈ NL, dT p (idxT p t) = (m : Int) from fun t ht => by obtain ⟨u, -, -, h⟩ := (HM2.out t).1 ht; exact h)
                    have qb1 : (O.length + 1) * 8 ≤ 140737488355328 := by omega
                    have qb2 : w2.heap.size ≤ wr.heap.size := Nat.le_trans hw2k htn.bel.size
                    have hpi : (0 : Int) < (NL.length : Int) := by omega
                    rw [← hNL]
                    clear htn hNL hmm
                    go_wp2_with (at_builtin; (refine wpList_append1 cN elInt rfl _ _ rfl w2.heap.size _ O k _ 1 _ (by rfl) HTW2.out.word (by rfl) rfl rfl rfl (cN_one _) qb1 (by decide) qb2 ?_); intro v8 w8 hrow8 hb8 hat8 hgr8)
                    go_roundw
                    case rel => exact ⟨m, NL, O ++ [k], by go_num, by rw [List.length_append, List.length_singleton]; have := HON.out; omega, HTW2.out.push hrow8 hgr8 hat8, HNE2.out, HND.out, HSE2.out, HSD2.out, by rw [← HOA.out, HNX2.out, List.append_assoc]; rfl⟩
                    case measure => (simp [intOf] <;> omega)
            · obtain rfl : k = 9 := by omega
              exact (amb_some HSE.out HNE.out HSD.out HNO.out).elim
end Go.Proofs.Ythnapjodmndlaaa

/- IsUnambiguous, both sides. -/
namespace Go.Proofs.Ythnapjodmndlaaa
set_option linter.unusedVariables false
set_option linter.unusedSimpArgs false
open Go.ChangeShapes Go.WideShapes Go.ChangeAt Go.RowKit
attribute [local go_sem] ext_cell ext_frozen ext_lt ext_lt1 ext_lt2 ext_lt3 ltn2 ltn3 ltn13 lts1 lts2 lts3

theorem far_exists {es : List (Nat × Nat)} {goal : Nat → Prop} {N : Nat} (hr : ∀ e ∈ es, e.1 < N ∧ e.2 < N) : ∀ (n : Nat) (F : List Int), farW N F = n → FarI es goal N F → ∃ F', FarI es goal N F' ∧ ∀ e ∈ es, rlxB F' e = false := by
  intro n
  induction n using Nat.strongRecOn with
  | _ n ih =>
    intro F hn h
    by_cases hx : ∃ e ∈ es, rlxB F e = true
    · obtain ⟨e, he, hb⟩ := hx
      have h1 := h.falls (hr e he).1 (hr e he).2 hb
      exact ih _ (by omega) _ rfl (h.relax he (hr e he).1 (hr e he).2)
    · refine ⟨F, h, fun e he => ?_⟩
      cases hb : rlxB F e with
      | false => rfl
      | true => exact absurd ⟨e, he, hb⟩ hx
theorem dT_lt {p : Pz} (hp : p.lets.length ≤ 20) {i : Nat} (hi : i < (endT p).length) : dT p i < ((endT p).length : Int) := by
  obtain ⟨F, h1, h2⟩ := far_exists (prsT_lt hp) _ _ rfl (farZ_ok p)
  rw [← far_end hp h1 h2 i hi]
  exact h1.lt hi
theorem wordT_len {τ : Type} {M : Nat} {nx : Nat → τ → List τ} {D : τ → Int} : ∀ (n : Nat) (S : List τ), (wordT M nx D n S).length ≤ n
  | 0, _ => Nat.le_refl _
  | n + 1, S => by
    rw [wordT]
    split
    · exact Nat.zero_le _
    · have := wordT_len (M := M) (nx := nx) (D := D) n
      rw [List.length_cons]
      exact Nat.succ_le_succ (this _)
theorem ambO_len (p : Pz) : (ambO p).length ≤ 3000 := by
  rw [ambO, List.length_map, ambT]
  split
  · rename_i hok
    split
    · simp
    · have h20 := (pz_facts hok).1
      have h0 : 0 < (endT p).length := (List.getElem?_eq_some_iff.1 (endT_start p)).1
      have h1 := dT_lt h20 h0
      have h2 : (endT p).length ≤ 882 := by rw [endT]; exact allT_len h20 882
      have h3 := wordT_len (M := 9) (nx := nxI p) (D := dT p) (dT p 0).toNat [0]
      show (ambW p).length ≤ 3000
      rw [ambW]
      omega
  · simp
noncomputable def unamT (p : Pz) : Bool := pzOk p && !(ambT p).2
set_option maxRecDepth 100000 in
set_option maxHeartbeats 4000000 in
theorem implUnam (v : Value) (p : Pz) (w : World) (hv : PzV 0 w.heap.size w v p) :
    Calls Try.prog 9 #[v] w fun e w' => e = .returned (.bool (unamT p)) ∧ Below w.heap.size w w' := by
  obtain ⟨R, hR⟩ : ∃ R, R = unamT p := ⟨_, rfl⟩
  rw [← hR]
  have HR := Lib.hid hR
  clear hR
  have HAM := Lib.hid (fun W (h : Below w.heap.size w W) => implAmb v p W (hv.keep h))
  have HVP := Lib.hid (fun W (h : Below w.heap.size w W) => implValidPos v p W (hv.keep h))
  obtain ⟨vq, vf, rfl, h1, h2⟩ := hv
  obtain ⟨A, n1, c, rfl⟩ := h1.shape
  obtain ⟨B0, n2, c2, rfl⟩ := h2.shape
  obtain ⟨W0, hW0⟩ : ∃ W0, W0 = w.alloc (.cells #[.slice A n1 c, .int .i64 p.first, .int .i64 p.last, .slice B0 n2 c2, .bool p.nul] 27) := ⟨_, rfl⟩
  have hbp : Blk W0 w.heap.size 27 #[.slice A n1 c, .int .i64 p.first, .int .i64 p.last, .slice B0 n2 c2, .bool p.nul] := by rw [hW0]; exact Blk.new _ _ _ _ rfl
  have hb0 : Below w.heap.size w W0 := by rw [hW0]; exact (Below.refl _ _).alloc (Nat.le_refl _) _
  have HB0 := Lib.hid hb0
  have x0 : W0.cell? ⟨w.heap.size, 0, none⟩ = some (.slice A n1 c) := by exact hbp.cell 0
  have x1 : W0.cell? ⟨w.heap.size, 1, none⟩ = some (.int .i64 p.first) := by exact hbp.cell 1
  have x2 : W0.cell? ⟨w.heap.size, 2, none⟩ = some (.int .i64 p.last) := by exact hbp.cell 2
  have x3 : W0.cell? ⟨w.heap.size, 3, none⟩ = some (.slice B0 n2 c2) := by exact hbp.cell 3
  have x4 : W0.cell? ⟨w.heap.size, 4, none⟩ = some (.bool p.nul) := by exact hbp.cell 4
  have hl0 : w.heap.size < W0.heap.size := hbp.lt
  obtain ⟨q1, hq1⟩ : ∃ q, q = pzOk p := ⟨_, rfl⟩
  obtain ⟨q2, hq2⟩ : ∃ q, q = (ambT p).2 := ⟨_, rfl⟩
  rw [← hq1] at HVP
  rw [← hq2] at HAM
  have HRR := Lib.hid (show R = (q1 && !q2) by rw [HR.out, hq1, hq2]; rfl)
  clear h1 h2 hbp hb0 hq1 hq2 HR
  go_enter Try.func9, Try.ntmps9
  go_upto_region 1 with fail
  rw [← hW0]
  clear hW0
  go_wp2_with fail
  refine (HAM.out _ HB0.out).mono ?_
  rintro e w1 ⟨vo, rfl, hoo, hb1⟩
  obtain ⟨A9, n9, c9, rfl⟩ := hoo.shape
  have x0 := kcell hb1 x0
  have x1 := kcell hb1 x1
  have x2 := kcell hb1 x2
  have x3 := kcell hb1 x3
  have x4 := kcell hb1 x4
  have hl0 := Nat.lt_of_lt_of_le hl0 hb1.size
  have HB1 := Lib.hid (below_trans HB0.out hb1)
  clear hb1 hoo
  go_wp2_with fail
  refine (HVP.out _ HB1.out).mono ?_
  rintro e w2 ⟨rfl, hb2⟩
  have HB2 := Lib.hid (below_trans HB1.out hb2)
  clear hb2
  cases q1 with
  | false =>
    go_wp2_with fail
    go_ret
    exact ⟨by rw [HRR.out]; rfl, HB2.out⟩
  | true =>
    rw [Bool.true_and] at HRR
    go_wp2_with fail
    go_ret
    exact ⟨by rw [HRR.out]; rfl, HB2.out⟩
set_option maxRecDepth 100000 in
set_option maxHeartbeats 4000000 in
theorem specUnam (v : Value) (p : Pz) (w : World) (hv : PzV 0 w.heap.size w v p) :
    Calls Try.prog 7 #[v] w fun e w' => e = .returned (.bool (unamT p)) ∧ Below w.heap.size w w' := by
  obtain ⟨R, hR⟩ : ∃ R, R = unamT p := ⟨_, rfl⟩
  rw [← hR]
  have HR := Lib.hid hR
  clear hR
  have HAM := Lib.hid (fun W (h : Below w.heap.size w W) => specAmb v p W (hv.keep h))
  have HVP := Lib.hid (fun W (h : Below w.heap.size w W) => specValidPos v p W (hv.keep h))
  obtain ⟨vq, vf, rfl, h1, h2⟩ := hv
  obtain ⟨A, n1, c, rfl⟩ := h1.shape
  obtain ⟨B0, n2, c2, rfl⟩ := h2.shape
  obtain ⟨W0, hW0⟩ : ∃ W0, W0 = w.alloc (.cells #[.slice A n1 c, .int .i64 p.first, .int .i64 p.last, .slice B0 n2 c2, .bool p.nul] 27) := ⟨_, rfl⟩
  have hbp : Blk W0 w.heap.size 27 #[.slice A n1 c, .int .i64 p.first, .int .i64 p.last, .slice B0 n2 c2, .bool p.nul] := by rw [hW0]; exact Blk.new _ _ _ _ rfl
  have hb0 : Below w.heap.size w W0 := by rw [hW0]; exact (Below.refl _ _).alloc (Nat.le_refl _) _
  have HB0 := Lib.hid hb0
  have x0 : W0.cell? ⟨w.heap.size, 0, none⟩ = some (.slice A n1 c) := by exact hbp.cell 0
  have x1 : W0.cell? ⟨w.heap.size, 1, none⟩ = some (.int .i64 p.first) := by exact hbp.cell 1
  have x2 : W0.cell? ⟨w.heap.size, 2, none⟩ = some (.int .i64 p.last) := by exact hbp.cell 2
  have x3 : W0.cell? ⟨w.heap.size, 3, none⟩ = some (.slice B0 n2 c2) := by exact hbp.cell 3
  have x4 : W0.cell? ⟨w.heap.size, 4, none⟩ = some (.bool p.nul) := by exact hbp.cell 4
  have hl0 : w.heap.size < W0.heap.size := hbp.lt
  obtain ⟨q1, hq1⟩ : ∃ q, q = pzOk p := ⟨_, rfl⟩
  obtain ⟨q2, hq2⟩ : ∃ q, q = (ambT p).2 := ⟨_, rfl⟩
  rw [← hq1] at HVP
  rw [← hq2] at HAM
  have HRR := Lib.hid (show R = (q1 && !q2) by rw [HR.out, hq1, hq2]; rfl)
  clear h1 h2 hbp hb0 hq1 hq2 HR
  go_enter Try.func7, Try.ntmps7
  go_upto_region 1 with fail
  rw [← hW0]
  clear hW0
  go_wp2_with fail
  refine (HAM.out _ HB0.out).mono ?_
  rintro e w1 ⟨vo, rfl, hoo, hb1⟩
  obtain ⟨A9, n9, c9, rfl⟩ := hoo.shape
  have x0 := kcell hb1 x0
  have x1 := kcell hb1 x1
  have x2 := kcell hb1 x2
  have x3 := kcell hb1 x3
  have x4 := kcell hb1 x4
  have hl0 := Nat.lt_of_lt_of_le hl0 hb1.size
  have HB1 := Lib.hid (below_trans HB0.out hb1)
  clear hb1 hoo
  go_wp2_with fail
  refine (HVP.out _ HB1.out).mono ?_
  rintro e w2 ⟨rfl, hb2⟩
  have HB2 := Lib.hid (below_trans HB1.out hb2)
  clear hb2
  cases q1 with
  | false =>
    go_wp2_with fail
    go_ret
    exact ⟨by rw [HRR.out]; rfl, HB2.out⟩
  | true =>
    rw [Bool.true_and] at HRR
    go_wp2_with fail
    go_ret
    exact ⟨by rw [HRR.out]; rfl, HB2.out⟩
end Go.Proofs.Ythnapjodmndlaaa

/- Whether a program's text can call itself: told by ranks along the calls. Over any program. -/
namespace Go.Proofs.Ythnapjodmndlaaa
set_option linter.unusedVariables false
set_option linter.unusedSimpArgs false
def leadsOf (P : Program) (f : FuncId) : List FuncId := (P.funcs[f]?).elim [] P.leadsTo
def rankOk (P : Program) (T : List (FuncId × Nat)) : Bool :=
  T.all fun q => T.lookup q.1 == some q.2 && (leadsOf P q.1).all fun h => match T.lookup h with | some r => decide (r < q.2) | none => false
def plainAll (P : Program) (T : List (FuncId × Nat)) : Bool :=
  T.all fun q => !((P.funcs[q.1]?).any fun fn => match fn.body with | some c => c.unfollowed | none => entryCalls fn)
theorem via_sub {P : Program} {p : FuncId → Prop} (hp : ∀ f, p f → ∀ h ∈ leadsOf P f, p h) : ∀ (n : Nat) (todo seen : List FuncId), (∀ f ∈ todo, p f) → (∀ f ∈ seen, p f) → ∀ g ∈ P.closureVia n todo seen, p g
  | 0, _, seen, _, hs, g, hg => hs g (by simpa [Program.closureVia] using hg)
  | _ + 1, [], seen, _, hs, g, hg => hs g (by simpa [Program.closureVia] using hg)
  | n + 1, f :: todo, seen, ht, hs, g, hg => by
    rw [Program.closureVia] at hg
    split at hg
    · exact via_sub hp n todo seen (fun x hx => ht x (List.mem_cons_of_mem _ hx)) hs g hg
    · refine via_sub hp n _ _ (fun x hx => ?_) (fun x hx => ?_) g hg
      · rcases List.mem_append.1 hx with h | h
        · exact hp f (ht f (List.mem_cons_self ..)) x h
        · exact ht x (List.mem_cons_of_mem _ h)
      · rcases List.mem_cons.1 hx with rfl | h
        · exact ht x (List.mem_cons_self ..)
        · exact hs x h
theorem closure_sub {P : Program} {p : FuncId → Prop} (hp : ∀ f, p f → ∀ h ∈ leadsOf P f, p h) {f : FuncId} (hf : p f) : ∀ g ∈ P.closure f, p g := by
  unfold Program.closure
  exact via_sub hp _ _ _ (by simpa using hf) (by simp)
theorem lookup_mem {T : List (FuncId × Nat)} {x : FuncId} {r : Nat} (h : T.lookup x = some r) : (x, r) ∈ T := by
  induction T with
  | nil => simp at h
  | cons q T ih =>
    obtain ⟨a, b⟩ := q
    rw [List.lookup_cons] at h
    split at h
    · rename_i hx
      have e1 : x = a := by simpa using hx
      have e2 : b = r := by simpa using h
      subst e1 e2
      exact List.mem_cons_self ..
    · exact List.mem_cons_of_mem _ (ih h)
theorem rank_step {P : Program} {T : List (FuncId × Nat)} (hT : rankOk P T = true) {f : FuncId} {r : Nat} (hf : T.lookup f = some r) {h : FuncId} (hh : h ∈ leadsOf P f) : ∃ s, T.lookup h = some s ∧ s < r := by
  have h1 := List.all_eq_true.1 hT _ (lookup_mem hf)
  simp only [Bool.and_eq_true] at h1
  have h2 := List.all_eq_true.1 h1.2 h hh
  cases hl : T.lookup h with
  | none => rw [hl] at h2; cases h2
  | some s => rw [hl] at h2; exact ⟨s, rfl, by simpa using h2⟩
theorem rank_closure {P : Program} {T : List (FuncId × Nat)} (hT : rankOk P T = true) {f : FuncId} {r : Nat} (hf : T.lookup f = some r) : ∀ g ∈ P.closure f, ∃ s, T.lookup g = some s ∧ s ≤ r :=
  closure_sub (p := fun g => ∃ s, T.lookup g = some s ∧ s ≤ r) (fun x ⟨s, hs, hr⟩ h hh => by
    obtain ⟨t, ht, hlt⟩ := rank_step hT hs hh
    exact ⟨t, ht, by omega⟩) ⟨r, hf, Nat.le_refl _⟩
theorem unfollowed_no {P : Program} {T : List (FuncId × Nat)} {f : FuncId} {r : Nat} (hT : rankOk P T = true) (hp : plainAll P T = true) (hf : T.lookup f = some r) : P.unfollowed f = false := by
  rw [Program.unfollowed, List.any_eq_false]
  intro g hg
  obtain ⟨s, hs, _⟩ := rank_closure hT hf g hg
  have := List.all_eq_true.1 hp _ (lookup_mem hs)
  exact Bool.eq_false_iff.1 (Eq.mp (Bool.not_eq_true' _) this)
theorem recurses_no {P : Program} {T : List (FuncId × Nat)} {f : FuncId} {r : Nat} (hT : rankOk P T = true) (hp : plainAll P T = true) (hf : T.lookup f = some r) : P.recurses f = false := by
  rw [Program.recurses, unfollowed_no hT hp hf, Bool.false_or, List.any_eq_false]
  intro g hg
  obtain ⟨s, hs, _⟩ := rank_closure hT hf g hg
  rw [Bool.not_eq_true, List.any_eq_false]
  intro h hh
  obtain ⟨t, ht, hlt⟩ := rank_step hT hs hh
  intro hc
  have hm : g ∈ P.closure h := by simpa using hc
  obtain ⟨u, hu, hle⟩ := rank_closure hT ht g hm
  rw [hs] at hu
  injection hu with e
  omega
theorem recurses_yes {P : Program} {f : FuncId} (g h : FuncId) (h1 : (P.closure f).contains g = true) (h2 : (leadsOf P g).contains h = true) (h3 : (P.closure h).contains g = true) : P.recurses f = true := by
  rw [Program.recurses, Bool.or_eq_true]
  refine .inr (List.any_eq_true.2 ⟨g, by simpa using h1, List.any_eq_true.2 ⟨h, by simpa [leadsOf] using h2, h3⟩⟩)
end Go.Proofs.Ythnapjodmndlaaa

/- Facts on this seat's program as a whole that every row asks for: told once. -/
namespace Go.Proofs.Ythnapjodmndlaaa
set_option linter.unusedVariables false
set_option linter.unusedSimpArgs false
theorem seat_mayEnter : Try.pinned.checked.prog.mayEnter = true := by kernel_rfl
theorem seat_lifts : Try.pinned.checked.prog.liftsFinal = false := by kernel_rfl
theorem seat_laidOut : laidOutB Try.pinned.checked.prog = true := by kernel_rfl
theorem seat_mapsRowed : mapsRowed Try.pinned.checked.prog = true := by kernel_rfl
end Go.Proofs.Ythnapjodmndlaaa

