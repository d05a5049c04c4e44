/- Parts of the proof, joined into one text: KnoE, AnyA, AnyB, PmpD, ImgM, AutI. -/
import Derived.Test.YtallglnmeeahiaaPartHGCPIOFF
import Derived.Test.YtallglnmeeahiaaPartLPOONNJA
import Derived.Test.YtallglnmeeahiaaPartOFPIKNKI
import Derived.Test.YtallglnmeeahiaaPartEHONMLDA
/- A text picked out of a list, an expression drawn (the reference's side): only that the calls end. -/
namespace Go.Proofs.Ytallglnmeeahiaa
set_option linter.unusedVariables false
set_option linter.unusedSimpArgs false
open Go.ChangeShapes Go.WideShapes Go.ChangeAt Go.RowKit
attribute [local go_sem] ext_cell ext_frozen ext_lt ext_lt1 ext_lt2 ext_lt3 ltn2 ltn3 ltn13 lts1 lts2 lts3

def strOk (v : Value) : Bool := match v with | .string s => decide (s.size ≤ 1000) | _ => false
theorem strOk_of {v : Value} (h : strOk v = true) : ∃ s, v = .string s ∧ s.size ≤ 1000 := by
  unfold strOk at h
  split at h
  · exact ⟨_, rfl, by simpa using h⟩
  · cases h
set_option maxHeartbeats 1000000 in
/-- a text picked out of a list that was just laid -/
theorem l1Pick_lit (b n : Nat) (cs : Array Value) (e : TypeId) (w : World) (hc : Cur w b) (hn : 0 < n) (hm : n ≤ 1000) (hcs : cs.size = n) (hall : cs.toList.all strOk = true) :
    Calls Try.prog 146 #[.pointer (some ⟨b, 0, none⟩), .slice (some ⟨w.heap.size, 0, none⟩) n n] (w.alloc (.cells cs e)) fun e' w' => ∃ r, e' = .returned (.string r) ∧ r.size ≤ 1000 ∧ Cur w' b ∧ Only b (b + 1) (w.alloc (.cells cs e)) w' := by
  have hlt := hc.lt
  have hal := (Below.refl w.heap.size w).alloc (Nat.le_refl _) (.cells cs e)
  have hbk := Blk.new w e cs _ rfl
  have HALL := Lib.hid hall
  have HCS := Lib.hid hcs
  have HC := Lib.hid (hc.keep hal)
  generalize hW : w.alloc (.cells cs e) = W at *
  clear hall hcs hal hW hc
  go_enter Try.func146, Try.ntmps146
  go_wp2_with fail
  refine (l1Below_any b _ _ HC.out).mono ?_; rintro e1 w1 ⟨r, rfl, ⟨h0, -, h1⟩, hc1, ho1⟩
  have h1 := h1 (by omega)
  obtain ⟨i, rfl⟩ := Int.eq_ofNat_of_zero_le h0
  have hi : i < cs.size := by have := HCS.out; omega
  have hbk1 := hbk.only ho1 (.inr (by omega))
  have hci := hbk1.cell i
  rw [Array.getElem?_eq_getElem hi] at hci
  obtain ⟨s, hs, hs2⟩ := strOk_of (List.all_eq_true.1 HALL.out cs[i] (by simp))
  rw [hs] at hci
  have HS2 := Lib.hid hs2
  clear hs hs2 hbk hbk1
  go_wp2_with fail
  go_ret
  exact ⟨_, rfl, HS2.out, hc1, ho1⟩
set_option maxRecDepth 100000 in
set_option maxHeartbeats 4000000 in
theorem l8Known_any (b : Nat) (w : World) (hc : Cur w b) :
    Calls Try.prog 128 #[.pointer (some ⟨b, 0, none⟩)] w fun e w' => ∃ v l, e = .returned v ∧ TkV w.heap.size w'.heap.size w' v l ∧ l.length ≤ 100 ∧ Cur w' b ∧ Only b (b + 1) w w' := by
  have hlt := hc.lt
  have hb0 := (Below.refl w.heap.size w).alloc (Nat.le_refl _) (.cells #[.slice none 0 0] 132)
  have hbr := Blk.new w 132 #[.slice none 0 0] _ rfl
  go_enter Try.func128, Try.ntmps128
  go_upto_region 1 with fail
  generalize w.alloc (.cells #[.slice none 0 0] 132) = W0 at *
  go_wp2_with fail
  refine (l1Pick_lit b _ _ _ _ (hc.keep hb0) (by decide) (by decide) (by rfl) (by kernel_rfl)).mono ?_
  rintro e w1 ⟨s, rfl, hs1, hc1, ho1⟩
  have hbr1 := (hbr.alloc _).only ho1 (.inr (by omega))
  have HO1 := Lib.hid (((Only.of_below hb0 b (b + 1)).alloc _).trans ho1)
  have hl1 := hbr1.lt
  have HC1 := Lib.hid hc1
  clear ho1 hbr hb0 hc1
  go_wp2_with fail
  refine (parseExpr_any s _ hs1).mono ?_
  rintro e w2 ⟨v, l, is, rfl, hv, hl, hb2⟩
  obtain ⟨ss, rfl, hsv⟩ := hv
  obtain ⟨A, n, c, rfl⟩ := hsv.shape
  have hal := (Below.refl w2.heap.size w2).alloc (Nat.le_refl _) (.cells #[.slice A n c] 132)
  have hbA := below_trans hb2 hal
  have hbr2 := hbr1.keep hbA
  have HT := Lib.hid (show TkV (w.heap.size + 1) _ _ (.agg #[.slice A n c]) l from ⟨_, rfl, (hsv.below hal (Nat.le_refl _)).mono (by omega) hal.size⟩)
  have HC2 := Lib.hid (HC1.out.keep hbA)
  have HO2 := Lib.hid (HO1.out.trans (Only.of_below hbA b (b + 1)))
  have hbn := Blk.new w2 132 #[.slice A n c] _ rfl
  have HL := Lib.hid hl
  clear hsv hbA hb2 hal hbr1 hl hs1
  go_upto_region 2 with fail
  generalize w2.alloc (.cells #[.slice A n c] 132) = W2 at *
  have x0 : W2.cell? ⟨w2.heap.size, 0, none⟩ = some (.slice A n c) := hbn.cell 0
  have z0 : W2.cell? ⟨w.heap.size, 0, none⟩ = some (.slice none 0 0) := hbr2.cell 0
  have v0 := hbr2.frozen 0
  have hlr := hbr2.lt
  clear hbn hbr2
  go_wp2_with fail
  have HD := tk_done HT.out HC2.out HO2.out rfl hlt (.slice A n c)
  exact bodyPost_ret (v := .agg #[.slice A n c]) (by simp [results, Try.results128, go_sem, z0, v0, hlr]) rfl ⟨_, l, rfl, HD.1, HL.out, HD.2.1, HD.2.2⟩
set_option maxHeartbeats 4000000 in
theorem l8Expr_any (b : Nat) (w : World) (hc : Cur w b) :
    Calls Try.prog 108 #[.pointer (some ⟨b, 0, none⟩)] w fun e w' => ∃ v l, e = .returned v ∧ TkV w.heap.size w'.heap.size w' v l ∧ l.length ≤ 100 ∧ Cur w' b ∧ Only b (b + 1) w w' := by
  have hlt := hc.lt
  have hb0 := (Below.refl w.heap.size w).alloc (Nat.le_refl _) (.cells #[.slice none 0 0] 132)
  have hbr := Blk.new w 132 #[.slice none 0 0] _ rfl
  go_enter Try.func108, Try.ntmps108
  go_wp2_with fail
  refine (l1Once_any b 2 _ (hc.keep hb0)).mono ?_
  rintro e w1 ⟨r, rfl, hc1, ho1⟩
  have hbr1 := hbr.only ho1 (.inr (by omega))
  have hl1 := hbr1.lt
  have HO1 := Lib.hid ((Only.of_below hb0 b (b + 1)).trans ho1)
  clear hbr ho1 hb0
  cases r
  · go_wp2_with fail
    refine (l1Below_any b 3 _ hc1).mono ?_
    rintro e w2 ⟨k, rfl, ⟨hk0, -, hk1⟩, hc2, ho2⟩
    have hk1 := hk1 (by omega)
    obtain ⟨k, rfl⟩ := Int.eq_ofNat_of_zero_le hk0
    have hbr2 := hbr1.only ho2 (.inr (by omega))
    have HO2 := Lib.hid (HO1.out.trans ho2)
    have hl2 := hbr2.lt
    clear ho2 hbr1 hc1
    go_wp2_with fail
    have hmk := l8Make_any b (1 + k) _ hc2 (by omega)
    rw [show (((1 + k : Nat)) : Int) = 1 + (k : Int) by omega] at hmk
    refine hmk.mono ?_
    rintro e w3 ⟨v, l, rfl, ht, hl3, hc3, ho3⟩
    have HB3 := Lib.hid (hbr2.only ho3 (.inr (by omega)))
    have HO3 := Lib.hid (HO2.out.trans ho3)
    have HC3 := Lib.hid hc3
    have HT3 := Lib.hid (ht.mono (lo' := w.heap.size + 1) (by omega) (Nat.le_refl _))
    have hp : (2 : Nat) ^ (1 + k + 1) ≤ 2 ^ 4 := Nat.pow_le_pow_right (by decide) (by omega)
    have HL := Lib.hid (show l.length ≤ 100 by simp at hp; omega)
    clear hbr2 hc3 ht ho3 hmk hp hl3
    obtain ⟨sx, rfl, hox⟩ := HT3.out
    obtain ⟨AX, nx, cx, rfl⟩ := hox.shape
    have bx := HB3.out
    have z0 : w3.cell? ⟨w.heap.size, 0, none⟩ = some (.slice none 0 0) := bx.cell 0
    have v0 := bx.frozen 0
    have hlr := bx.lt
    clear bx hox
    go_wp2_with fail
    have HD := tk_done HT3.out HC3.out HO3.out rfl hlt (.slice AX nx cx)
    refine bodyPost_ret (v := .agg #[.slice AX nx cx]) (by simp [results, Try.results108, go_sem, z0, v0, hlr]) rfl ⟨_, _, rfl, HD.1, HL.out, HD.2.1, HD.2.2⟩
  · go_wp2_with fail
    refine (l8Known_any b _ hc1).mono ?_
    rintro e w3 ⟨v, l, rfl, ht, hl3, hc3, ho3⟩
    have HB3 := Lib.hid (hbr1.only ho3 (.inr (by omega)))
    have HO3 := Lib.hid (HO1.out.trans ho3)
    have HC3 := Lib.hid hc3
    have HT3 := Lib.hid (ht.mono (lo' := w.heap.size + 1) (by omega) (Nat.le_refl _))
    have HL := Lib.hid hl3
    clear hbr1 hc3 ht ho3 hl3 hc1
    obtain ⟨sx, rfl, hox⟩ := HT3.out
    obtain ⟨AX, nx, cx, rfl⟩ := hox.shape
    have bx := HB3.out
    have z0 : w3.cell? ⟨w.heap.size, 0, none⟩ = some (.slice none 0 0) := bx.cell 0
    have v0 := bx.frozen 0
    have hlr := bx.lt
    clear bx hox
    go_wp2_with fail
    have HD := tk_done HT3.out HC3.out HO3.out rfl hlt (.slice AX nx cx)
    refine bodyPost_ret (v := .agg #[.slice AX nx cx]) (by simp [results, Try.results108, go_sem, z0, v0, hlr]) rfl ⟨_, _, rfl, HD.1, HL.out, HD.2.1, HD.2.2⟩
end Go.Proofs.Ytallglnmeeahiaa

/- An automaton drawn, valid or not (the reference's l11Aut, l11Any). -/
namespace Go.Proofs.Ytallglnmeeahiaa
set_option linter.unusedVariables false
set_option linter.unusedSimpArgs false
open Go.ChangeShapes Go.WideShapes Go.ChangeAt Go.RowKit
attribute [local go_sem] ext_cell ext_frozen ext_lt ext_lt1 ext_lt2 ext_lt3 ltn2 ltn3 ltn13 lts1 lts2 lts3

theorem aut_done {b r lo : Nat} {w0 w : World} {st : Int} {ac nx : Value} {us : List Value} {acc : List Bool} {nxt : List (List Int)} (h : AuR lo w ac nx us acc nxt) (hc : Cur w b) (ho : Only b (b + 1) w0 w) (hr : w0.heap.size ≤ r) (hlo : r < lo) (hb : b < w0.heap.size)
    (hn : acc.length = nxt.length ∧ 0 < nxt.length ∧ nxt.length ≤ 100 ∧ ∀ row ∈ nxt, row.length = 9) : AutCur b w0 (.returned (.agg #[.int .i64 st, ac, nx])) (put3 w r (.int .i64 st) ac nx) := by
  have hp := put3_only w r (.int .i64 st) ac nx
  exact ⟨⟨_, _, _, us, acc, nxt, rfl, (h.only hp (by omega)).mono (by omega), hn, ((ho.setCell (p := ⟨r, 0, none⟩) (.inr (by simp only; omega)) _).setCell (p := ⟨r, 1, none⟩) (.inr (by simp only; omega)) _).setCell (p := ⟨r, 2, none⟩) (.inr (by simp only; omega)) _⟩, hc.only hp (by omega)⟩
set_option maxHeartbeats 8000000 in
theorem l11Aut_any (b : Nat) (w : World) (hc : Cur w b) :
    Calls Try.prog 87 #[.pointer (some ⟨b, 0, none⟩)] w (AutCur b w) := by
  have hbw := hc.lt
  have hb0 := (Below.refl w.heap.size w).alloc (Nat.le_refl _) (.cells #[.int .i64 0, .slice none 0 0, .slice none 0 0] 27)
  have hbr := Blk.new w 27 #[.int .i64 0, .slice none 0 0, .slice none 0 0] _ rfl
  go_enter Try.func87, Try.ntmps87
  go_wp2_with fail
  refine (l1Once_any b 3 _ (hc.keep hb0)).mono ?_
  rintro e w1 ⟨o, rfl, hc1, ho1⟩
  have HBR1 := Lib.hid (hbr.only ho1 (.inr (by omega)))
  have HO1 := Lib.hid ((Only.of_below hb0 b (b + 1)).trans ho1)
  have HC1 := Lib.hid hc1
  clear hb0 hbr ho1 hc1
  cases o
  · go_wp2_with fail
    refine (l8Expr_any b _ HC1.out).mono ?_
    rintro e w2 ⟨v2, l, rfl, htk, -, hc2, ho2⟩
    have HBR2 := Lib.hid (HBR1.out.only ho2 (.inr (by omega)))
    have HO2 := Lib.hid (HO1.out.trans ho2)
    have HC2 := Lib.hid hc2
    have HTK := Lib.hid (htk.mono (Nat.zero_le _) (Nat.le_refl _))
    clear hc2 ho2 htk HBR1 HO1 HC1
    go_wp2_with fail
    refine (buildPositions_any _ l _ HTK.out).mono ?_
    rintro e w3 ⟨v3, is3, L, F, rfl, hpv, hb3⟩
    obtain ⟨ls, fs, fi, la, nu, rfl, g1, g2, hLF⟩ := hpv
    obtain ⟨B1, m1, d1, rfl⟩ := g1.shape
    obtain ⟨B2, m2, d2, rfl⟩ := g2.shape
    have hal := (Below.refl w3.heap.size w3).alloc (Nat.le_refl _) (.cells #[.slice B1 m1 d1, .int .i64 fi, .int .i64 la, .slice B2 m2 d2, .bool nu] 127)
    have hbA := below_trans hb3 hal
    have hbp := Blk.new w3 127 #[.slice B1 m1 d1, .int .i64 fi, .int .i64 la, .slice B2 m2 d2, .bool nu] _ rfl
    have HPV := Lib.hid (PosV.keep (show PosV 0 w3.heap.size w3 (.agg #[.slice B1 m1 d1, .int .i64 fi, .int .i64 la, .slice B2 m2 d2, .bool nu]) L F from ⟨_, _, _, _, _, rfl, g1.mono (Nat.zero_le _) (Nat.le_refl _), g2.mono (Nat.zero_le _) (Nat.le_refl _), hLF⟩) hal)
    have HBR3 := Lib.hid (HBR2.out.keep hbA)
    have HO3 := Lib.hid (HO2.out.trans (Only.of_below hbA b (b + 1)))
    have HC3 := Lib.hid (HC2.out.keep hbA)
    clear g1 g2 hLF hb3 hal hbA HBR2 HO2 HC2 HTK
    go_upto_region 4 with fail
    generalize w3.alloc (.cells #[.slice B1 m1 d1, .int .i64 fi, .int .i64 la, .slice B2 m2 d2, .bool nu] 127) = W3 at *
    have x0 : W3.cell? ⟨w3.heap.size, 0, none⟩ = some (.slice B1 m1 d1) := hbp.cell 0
    have x1 : W3.cell? ⟨w3.heap.size, 1, none⟩ = some (.int .i64 fi) := hbp.cell 1
    have x2 : W3.cell? ⟨w3.heap.size, 2, none⟩ = some (.int .i64 la) := hbp.cell 2
    have x3 : W3.cell? ⟨w3.heap.size, 3, none⟩ = some (.slice B2 m2 d2) := hbp.cell 3
    have x4 : W3.cell? ⟨w3.heap.size, 4, none⟩ = some (.bool nu) := hbp.cell 4
    clear hbp
    go_wp2_with fail
    refine (l11Subsets_any _ L F _ HPV.out).mono ?_
    rintro e w4 ⟨A1, n1, c1, A2, n2, c2, st, is, rfl, hex, hb4⟩
    have hal := (Below.refl w4.heap.size w4).alloc (Nat.le_refl _) (.cells #[.int .i64 st, .slice A1 n1 c1, .slice A2 n2 c2] 27)
    have hbA := below_trans hb4 hal
    have hbq := Blk.new w4 27 #[.int .i64 st, .slice A1 n1 c1, .slice A2 n2 c2] _ rfl
    have HBR4 := Lib.hid (HBR3.out.keep hbA)
    have HO4 := Lib.hid (HO3.out.trans (Only.of_below hbA b (b + 1)))
    have HC4 := Lib.hid (HC3.out.keep hbA)
    have HAL := Lib.hid hal
    have hw3 : w.heap.size < W3.heap.size := HBR3.out.lt
    clear x0 x1 x2 x3 x4 hb4 hal hbA HBR3 HO3 HC3 HPV
    go_upto_region 5 with fail
    generalize w4.alloc (.cells #[.int .i64 st, .slice A1 n1 c1, .slice A2 n2 c2] 27) = W4 at *
    cases is
    · clear hex hbq
      go_wp2_with fail
      refine (l11Random_any b _ HC4.out).mono ?_
      rintro e w9 ⟨⟨st, ac, nx, us, acc, nxt, rfl, hau, hnn, ho9⟩, hc9⟩
      obtain ⟨A1, c1, rfl, -, -, -⟩ := ownSh hau.acc
      obtain ⟨A2, c2, rfl, -, -, -⟩ := ownSh hau.nxt.own
      have hbr9 := HBR4.out.only ho9 (.inr (by omega))
      have hlw := HBR4.out.lt
      have z0 : w9.cell? ⟨w.heap.size, 0, none⟩ = some (.int .i64 0) := hbr9.cell 0
      have z1 : w9.cell? ⟨w.heap.size, 1, none⟩ = some (.slice none 0 0) := hbr9.cell 1
      have z2 : w9.cell? ⟨w.heap.size, 2, none⟩ = some (.slice none 0 0) := hbr9.cell 2
      have v0 := hbr9.frozen 0
      have v1 := hbr9.frozen 1
      have v2 := hbr9.frozen 2
      have hlr := hbr9.lt
      have HD := Lib.hid (aut_done (r := w.heap.size) (st := st) hau hc9 (HO4.out.trans ho9) (Nat.le_refl _) hlw hbw hnn)
      clear hbr9 hau hnn ho9 hc9
      go_wp2_with fail
      exact bodyPost_ret (v := .agg #[.int .i64 st, .slice A1 acc.length c1, .slice A2 us.length c2]) (by simp [results, Try.results87, go_sem, z0, z1, z2, v0, v1, v2, hlr]) rfl HD.out
    · obtain ⟨us, acc, nxt, hau, hnn⟩ := hex rfl
      have y0 : W4.cell? ⟨w4.heap.size, 0, none⟩ = some (.int .i64 st) := hbq.cell 0
      have y1 : W4.cell? ⟨w4.heap.size, 1, none⟩ = some (.slice A1 n1 c1) := hbq.cell 1
      have y2 : W4.cell? ⟨w4.heap.size, 2, none⟩ = some (.slice A2 n2 c2) := hbq.cell 2
      have z0 : W4.cell? ⟨w.heap.size, 0, none⟩ = some (.int .i64 0) := HBR4.out.cell 0
      have z1 : W4.cell? ⟨w.heap.size, 1, none⟩ = some (.slice none 0 0) := HBR4.out.cell 1
      have z2 : W4.cell? ⟨w.heap.size, 2, none⟩ = some (.slice none 0 0) := HBR4.out.cell 2
      have v0 := HBR4.out.frozen 0
      have v1 := HBR4.out.frozen 1
      have v2 := HBR4.out.frozen 2
      have hlr := HBR4.out.lt
      have HD := Lib.hid (aut_done (r := w.heap.size) (st := st) (hau.below HAL.out) HC4.out HO4.out (Nat.le_refl _) hw3 hbw hnn)
      clear hau hnn hbq hex
      go_wp2_with fail
      exact bodyPost_ret (v := .agg #[.int .i64 st, .slice A1 n1 c1, .slice A2 n2 c2]) (by simp [results, Try.results87, go_sem, z0, z1, z2, v0, v1, v2, hlr]) rfl HD.out
  · skip
    go_wp2_with fail
    refine (l11Random_any b _ HC1.out).mono ?_
    rintro e w9 ⟨⟨st, ac, nx, us, acc, nxt, rfl, hau, hnn, ho9⟩, hc9⟩
    obtain ⟨A1, c1, rfl, -, -, -⟩ := ownSh hau.acc
    obtain ⟨A2, c2, rfl, -, -, -⟩ := ownSh hau.nxt.own
    have hbr9 := HBR1.out.only ho9 (.inr (by omega))
    have hlw := HBR1.out.lt
    have z0 : w9.cell? ⟨w.heap.size, 0, none⟩ = some (.int .i64 0) := hbr9.cell 0
    have z1 : w9.cell? ⟨w.heap.size, 1, none⟩ = some (.slice none 0 0) := hbr9.cell 1
    have z2 : w9.cell? ⟨w.heap.size, 2, none⟩ = some (.slice none 0 0) := hbr9.cell 2
    have v0 := hbr9.frozen 0
    have v1 := hbr9.frozen 1
    have v2 := hbr9.frozen 2
    have hlr := hbr9.lt
    have HD := Lib.hid (aut_done (r := w.heap.size) (st := st) hau hc9 (HO1.out.trans ho9) (Nat.le_refl _) hlw hbw hnn)
    clear hbr9 hau hnn ho9 hc9
    go_wp2_with fail
    exact bodyPost_ret (v := .agg #[.int .i64 st, .slice A1 acc.length c1, .slice A2 us.length c2]) (by simp [results, Try.results87, go_sem, z0, z1, z2, v0, v1, v2, hlr]) rfl HD.out
end Go.Proofs.Ytallglnmeeahiaa

/- Any automaton drawn (the reference's l11Any). -/
namespace Go.Proofs.Ytallglnmeeahiaa
set_option linter.unusedVariables false
set_option linter.unusedSimpArgs false
open Go.ChangeShapes Go.WideShapes Go.ChangeAt Go.RowKit
attribute [local go_sem] ext_cell ext_frozen ext_lt ext_lt1 ext_lt2 ext_lt3 ltn2 ltn3 ltn13 lts1 lts2 lts3

/-- all blocks of the automaton are as they were -/
theorem AuR.same {lo : Nat} {w w' : World} {ac nx : Value} {us : List Value} {acc : List Bool} {nxt : List (List Int)} (h : AuR lo w ac nx us acc nxt) (hb : ∀ b, (ac.ownBlock = some b ∨ b ∈ blks (nx :: us)) → w'.heap[b]? = w.heap[b]?) : AuR lo w' ac nx us acc nxt :=
  ⟨ownsRow_block h.acc fun g hg => hb g (.inl hg), h.nxt.blocks fun b hm => hb b (.inr hm), h.apart⟩
/-- an automaton that was drawn lies in the block q; the result's block r -/
structure AyR (b r q : Nat) (w0 w : World) (st : Int) (ac nx : Value) (us : List Value) (acc : List Bool) (nxt : List (List Int)) : Prop where
  res : Blk w r 27 #[.int .i64 0, .slice none 0 0, .slice none 0 0]
  blk : Blk w q 27 #[.int .i64 st, ac, nx]
  au : AuR (r + 1) w ac nx us acc nxt
  farq : ac.ownBlock ≠ some q ∧ q ∉ blks (nx :: us)
  cur : Cur w b
  frm : Only b (b + 1) w0 w
  at0 : w0.heap.size = r
  ord : b < r ∧ r < q
section
variable {b r q : Nat} {w0 w w' : World} {st : Int} {ac nx : Value} {us : List Value} {acc : List Bool} {nxt : List (List Int)}
theorem AyR.step (a : AyR b r q w0 w st ac nx us acc nxt) (ho : Only b (b + 1) w w') (hc : Cur w' b) : AyR b r q w0 w' st ac nx us acc nxt := by
  have hd := a.ord
  exact ⟨a.res.only ho (.inr (by omega)), a.blk.only ho (.inr (by omega)), a.au.only ho (by omega), a.farq, hc, a.frm.trans ho, a.at0, hd⟩
theorem AyR.below (a : AyR b r q w0 w st ac nx us acc nxt) (hb : Below w.heap.size w w') : AyR b r q w0 w' st ac nx us acc nxt := a.step (Only.of_below hb _ _) (a.cur.keep hb)
theorem AyR.setQ (a : AyR b r q w0 w st ac nx us acc nxt) (i : Nat) (u : Value) : AuR (r + 1) (w.setCell ⟨q, i, none⟩ u) ac nx us acc nxt :=
  a.au.same fun g hg => Below.heap_setCell w ⟨q, i, none⟩ _ g (fun e => by subst e; exact hg.elim a.farq.1 a.farq.2)
theorem any_done {v x y z : Value} {m : Au} (h : AuV (r + 1) w.heap.size w v m) (hc : Cur w b) (ho : Only b (b + 1) w0 w) (hr : w0.heap.size = r) (hb : b < r) :
    AuV w0.heap.size (put3 w r x y z).heap.size (put3 w r x y z) v m ∧ Cur (put3 w r x y z) b ∧ Only b (b + 1) w0 (put3 w r x y z) := by
  have hp := put3_only w r x y z
  exact ⟨(h.only hp (Nat.le_refl _) (.inr (Nat.le_refl _))).mono (by omega) hp.size, hc.only hp (by omega), ((ho.setCell (p := ⟨r, 0, none⟩) (.inr (by simp only; omega)) _).setCell (p := ⟨r, 1, none⟩) (.inr (by simp only; omega)) _).setCell (p := ⟨r, 2, none⟩) (.inr (by simp only; omega)) _⟩
end
def AnyOut (b : Nat) (w : World) (e : Ending) (w' : World) : Prop := ∃ v m, e = .returned v ∧ (AuV w.heap.size w'.heap.size w' v m ∧ Cur w' b ∧ Only b (b + 1) w w')
set_option maxHeartbeats 8000000 in
theorem l11Any_any (b : Nat) (w : World) (hc : Cur w b) :
    Calls Try.prog 70 #[.pointer (some ⟨b, 0, none⟩)] w (AnyOut b w) := by
  have hbw := hc.lt
  have hb0 := (Below.refl w.heap.size w).alloc (Nat.le_refl _) (.cells #[.int .i64 0, .slice none 0 0, .slice none 0 0] 27)
  have hbr := Blk.new w 27 #[.int .i64 0, .slice none 0 0, .slice none 0 0] _ rfl
  have hs0 : (w.alloc (.cells #[.int .i64 0, .slice none 0 0, .slice none 0 0] 27)).heap.size = w.heap.size + 1 := by simp
  go_enter Try.func70, Try.ntmps70
  go_wp2_with fail
  generalize w.alloc (.cells #[.int .i64 0, .slice none 0 0, .slice none 0 0] 27) = W0 at *
  refine (l11Aut_any b _ (hc.keep hb0)).mono ?_
  rintro e w1 ⟨⟨st, ac, nx, us, acc, nxt, rfl, hau, hnn, ho1⟩, hc1⟩
  rw [hs0] at hau
  obtain ⟨A1, c1, rfl, -, -, -⟩ := ownSh hau.acc
  obtain ⟨A2, c2, rfl, -, -, hA2⟩ := ownSh hau.nxt.own
  obtain ⟨q, hq⟩ : ∃ q, q = w1.heap.size := ⟨_, rfl⟩
  have hz1 := ho1.size
  have hal := (Below.refl w1.heap.size w1).alloc (Nat.le_refl _) (.cells #[.int .i64 st, .slice A1 acc.length c1, .slice A2 us.length c2] 27)
  have hlen := hau.nxt.len
  have HA0 := Lib.hid (show AyR b w.heap.size q w (w1.alloc (.cells #[.int .i64 st, .slice A1 acc.length c1, .slice A2 us.length c2] 27)) st _ _ us acc nxt from
    ⟨(hbr.only ho1 (.inr (by omega))).keep hal, Blk.new w1 _ _ _ hq, hau.below hal, ⟨fun e => by have := (hau.acc.lt _ e).2; omega, fun e => by have := (hau.nxt.lt _ e).2; omega⟩, hc1.keep hal, ((Only.of_below hb0 b (b + 1)).trans ho1).trans (Only.of_below hal b (b + 1)), rfl, by omega⟩)
  have hqr : w.heap.size < q := by omega
  have HNN := Lib.hid hnn
  have HLEN := Lib.hid hlen
  have hup : 0 < us.length := by omega
  have haccl : acc.length ≤ 100 := by omega
  clear hal hau hc1 ho1 hbr hb0 hs0 hz1 hnn hlen hc
  go_upto_region 2 with fail
  rw [← hq]
  generalize w1.alloc (.cells #[.int .i64 st, .slice A1 acc.length c1, .slice A2 us.length c2] 27) = W1 at *
  clear hq
  go_wp2_with fail
  refine (l1Below_any b 14 _ HA0.out.cur).mono ?_
  rintro e w2 ⟨t, rfl, -, hc2, ho2⟩
  have HA := Lib.hid (HA0.out.step ho2 hc2)
  clear HA0 ho2 hc2
  have hlq := HA.out.blk.lt
  have hlr0 := HA.out.res.lt
  by_cases ht0 : t = 0
  · subst ht0
    have HSL := Lib.hid (litD_sl w2 3 #[.int .i64 (-1), .int .i64 12, .int .i64 1] [-1, 12, 1] 3 (b + 1) (by omega) (by decide) rfl rfl rfl)
    have HAL := Lib.hid ((Below.refl w2.heap.size w2).alloc (Nat.le_refl _) (.cells #[.int .i64 (-1), .int .i64 12, .int .i64 1] 3))
    go_wp2_with fail
    refine (l1PickInt_any b _ _ _ (HA.out.cur.keep HAL.out) (by decide) HSL.out).mono ?_
    rintro e w3 ⟨u, rfl, -, hc3, ho3⟩
    have HA3 := Lib.hid ((HA.out.below HAL.out).step ho3 hc3)
    clear hc3 ho3 HSL HAL HA
    have x0 : w3.cell? ⟨q, 0, none⟩ = some (.int .i64 st) := HA3.out.blk.cell 0
    have f0 := HA3.out.blk.frozen 0
    have hlq3 := HA3.out.blk.lt
    go_upto_region 11 with fail
    have HV := Lib.hid ((HA3.out.setQ 0 (.int .i64 u)).view u)
    have HBQ := Lib.hid (HA3.out.blk.set_ 0 (.int .i64 u))
    have HBR := Lib.hid (HA3.out.res.far (p := ⟨q, 0, none⟩) (by simp only; omega) (.int .i64 u))
    have HCU := Lib.hid (HA3.out.cur.set (p := ⟨q, 0, none⟩) (by simp only; omega) (.int .i64 u))
    have HFR := Lib.hid (HA3.out.frm.setCell (p := ⟨q, 0, none⟩) (.inr (by simp only; omega)) (.int .i64 u))
    generalize w3.setCell ⟨q, 0, none⟩ (.int .i64 u) = w4 at *
    clear x0 f0 hlq3 HA3 hlr0 hlq
    have x0 : w4.cell? ⟨q, 0, none⟩ = some (.int .i64 (u)) := HBQ.out.cell 0
    have x1 : w4.cell? ⟨q, 1, none⟩ = some (.slice A1 acc.length c1) := HBQ.out.cell 1
    have x2 : w4.cell? ⟨q, 2, none⟩ = some (.slice A2 us.length c2) := HBQ.out.cell 2
    have z0 : w4.cell? ⟨w.heap.size, 0, none⟩ = some (.int .i64 0) := HBR.out.cell 0
    have z1 : w4.cell? ⟨w.heap.size, 1, none⟩ = some (.slice none 0 0) := HBR.out.cell 1
    have z2 : w4.cell? ⟨w.heap.size, 2, none⟩ = some (.slice none 0 0) := HBR.out.cell 2
    have v0 := HBR.out.frozen 0
    have v1 := HBR.out.frozen 1
    have v2 := HBR.out.frozen 2
    have hlr := HBR.out.lt
    have q1 : ¬ q = w.heap.size := by omega
    have q2 : ¬ w.heap.size = q := by omega
    go_wp2_with fail
    exact bodyPost_ret (v := .agg #[.int .i64 (u), .slice A1 acc.length c1, .slice A2 us.length c2]) (by simp [results, Try.results70, go_sem, z0, z1, z2, v0, v1, v2, hlr]) rfl ⟨_, _, rfl, any_done HV.out HCU.out HFR.out rfl hbw⟩
  have hd0 : (t == 0) = false := by simpa using ht0
  by_cases ht1 : t = 1
  · subst ht1
    have x1 : w2.cell? ⟨q, 1, none⟩ = some (.slice A1 acc.length c1) := HA.out.blk.cell 1
    go_upto_region 11 with (at_builtin; (refine wpList_append2 cB elBool rfl _ _ (by rfl) (w.heap.size + 1) _ acc true 1 _ (by rfl) (HA.out.au.acc.alloc _) (by rfl) (heap_alloc_new _ _) rfl (cB_one _) (by omega) (by omega) (by simp; omega) ?_); intro g2 cp2 w9 hown3 hgr3 hat3 hlt3; have hal := (Below.refl w2.heap.size w2).alloc (Nat.le_refl _) (.cells #[.bool true] 4); have HA9 := Lib.hid ((HA.out.au.below hal).pushA hgr3 hown3 (fun k hk => by cases hk; exact hat3)); have hob := own_below (HA.out.au.acc.alloc (.cells #[.bool true] 4)) (by simp; omega) hgr3; have HBQ9 := Lib.hid (show Blk w9 q _ _ from (hgr3.block q (by simp; omega) (fun e => HA.out.farq.1 e.symm)).trans (HA.out.blk.keep hal)); have HBR9 := Lib.hid ((HA.out.res.keep hal).below hob (by omega)); have HCU9 := Lib.hid ((HA.out.cur.keep hal).below hob (by omega)); have HFR9 := Lib.hid ((HA.out.frm.alloc (.cells #[.bool true] 4)).andBelow hob (by omega)); have HG9 := Lib.hid (show g2 ≠ q from fun e => by subst e; exact hat3.elim HA.out.farq.1 (fun e => by simp at e; omega)); have y1 : w9.cell? ⟨q, 1, none⟩ = some (.slice A1 acc.length c1) := HBQ9.out.cell 1; have f1 := HBQ9.out.frozen 1; have hl9 := HBQ9.out.lt; clear hown3 hgr3 hat3 hal hob)
    have HV := Lib.hid ((HA9.out.same (w' := w9.setCell ⟨q, 1, none⟩ (.slice (some ⟨g2, 0, none⟩) (acc.length + 1) cp2)) (fun g hg => Below.heap_setCell w9 ⟨q, 1, none⟩ _ g (fun e => by subst e; exact hg.elim (fun e => HG9.out (by cases e; rfl)) HA.out.farq.2))).view st)
    have HBQ := Lib.hid (HBQ9.out.set_ 1 (.slice (some ⟨g2, 0, none⟩) (acc.length + 1) cp2))
    have HBR := Lib.hid (HBR9.out.far (p := ⟨q, 1, none⟩) (by simp only; omega) (.slice (some ⟨g2, 0, none⟩) (acc.length + 1) cp2))
    have HCU := Lib.hid (HCU9.out.set (p := ⟨q, 1, none⟩) (by simp only; omega) (.slice (some ⟨g2, 0, none⟩) (acc.length + 1) cp2))
    have HFR := Lib.hid (HFR9.out.setCell (p := ⟨q, 1, none⟩) (.inr (by simp only; omega)) (.slice (some ⟨g2, 0, none⟩) (acc.length + 1) cp2))
    generalize w9.setCell ⟨q, 1, none⟩ (.slice (some ⟨g2, 0, none⟩) (acc.length + 1) cp2) = w4 at *
    clear y1 f1 hl9 x1 HA9 hlr0 hlq HBQ9 HBR9 HCU9 HFR9
    have x0 : w4.cell? ⟨q, 0, none⟩ = some (.int .i64 (st)) := HBQ.out.cell 0
    have x1 : w4.cell? ⟨q, 1, none⟩ = some (.slice (some ⟨g2, 0, none⟩) (acc.length + 1) cp2) := HBQ.out.cell 1
    have x2 : w4.cell? ⟨q, 2, none⟩ = some (.slice A2 us.length c2) := HBQ.out.cell 2
    have z0 : w4.cell? ⟨w.heap.size, 0, none⟩ = some (.int .i64 0) := HBR.out.cell 0
    have z1 : w4.cell? ⟨w.heap.size, 1, none⟩ = some (.slice none 0 0) := HBR.out.cell 1
    have z2 : w4.cell? ⟨w.heap.size, 2, none⟩ = some (.slice none 0 0) := HBR.out.cell 2
    have v0 := HBR.out.frozen 0
    have v1 := HBR.out.frozen 1
    have v2 := HBR.out.frozen 2
    have hlr := HBR.out.lt
    have q1 : ¬ q = w.heap.size := by omega
    have q2 : ¬ w.heap.size = q := by omega
    go_wp2_with fail
    exact bodyPost_ret (v := .agg #[.int .i64 (st), .slice (some ⟨g2, 0, none⟩) (acc.length + 1) cp2, .slice A2 us.length c2]) (by simp [results, Try.results70, go_sem, z0, z1, z2, v0, v1, v2, hlr]) rfl ⟨_, _, rfl, any_done HV.out HCU.out HFR.out rfl hbw⟩
  have hd1 : (t == 1) = false := by simpa using ht1
  obtain ⟨gN, rfl⟩ := hA2 hup
  obtain ⟨u0, us', rfl⟩ : ∃ u0 us', us = u0 :: us' := by
    cases us with
    | nil => simp at hup
    | cons u us => exact ⟨u, us, rfl⟩
  obtain ⟨x0s, nxt', rfl⟩ : ∃ x0s nxt', nxt = x0s :: nxt' := by
    cases nxt with
    | nil => have := HNN.out.2.1; simp at this
    | cons x xs => exact ⟨x, xs, rfl⟩
  have hrow0 := HA.out.au.nxt.rows 0 u0 x0s rfl rfl
  have h9 : x0s.length = 9 := HNN.out.2.2.2 x0s (by simp)
  rw [h9] at hrow0
  obtain ⟨A0, c0, rfl, hc90, -, hA0⟩ := ownSh hrow0
  obtain ⟨g0, rfl⟩ := hA0 (by omega)
  have n0 : w2.cell? ⟨gN, 0, none⟩ = some (.slice (some ⟨g0, 0, none⟩) 9 c0) := World.ownsRow.cellAt HA.out.au.nxt.own 0 (by simp)
  have x2 : w2.cell? ⟨q, 2, none⟩ = some (.slice (some ⟨gN, 0, none⟩) (us'.length + 1) c2) := HA.out.blk.cell 2
  have HROW0 := Lib.hid hrow0
  have H9 := Lib.hid h9
  have hgNl := (HA.out.au.nxt.own.lt gN rfl)
  have hg0l := hrow0.lt g0 rfl
  have hun : 0 < us'.length + 1 := by omega
  clear hrow0 h9 hup
  by_cases ht2 : t = 2
  · subst ht2
    go_wp2_with fail
    refine F_start 7 (fun w' => w'.cell? ⟨q, 2, none⟩ = some (.slice (some ⟨gN, 0, none⟩) (us'.length + 1) c2) ∧ w'.cell? ⟨gN, 0, none⟩ = some (.slice (some ⟨g0, 0, none⟩) 9 c0)) (by kernel_rfl) (by exact ⟨x2, n0⟩) (fun hS inv => ?_)
    refine F_take (i := 0) (v := ?_) rfl (by kernel_rfl) (by kernel_rfl) (by kernel_rfl) (fun _ _ _ h => h) inv (Or.inl ⟨by rfl, ?_⟩) (by assumption) (fun invn => ?_)
    rotate_left
    · (intro w hSw; (try dsimp only at hSw); go_simp; try with_reducible rfl)
    try simp only [List.getElem_toArray, List.getElem_cons_zero, List.getElem_cons_succ, Act.put, List.setIfInBounds_toArray, List.set_cons_zero, List.set_cons_succ]
    clear inv
    have inv := invn
    clear invn
    refine F_take (i := 1) (v := ?_) rfl (by kernel_rfl) (by kernel_rfl) (by kernel_rfl) (fun _ _ _ h => h) inv (Or.inl ⟨by rfl, ?_⟩) (by assumption) (fun invn => ?_)
    rotate_left
    · (intro w hSw; (try dsimp only at hSw); go_simp; try with_reducible rfl)
    try simp only [List.getElem_toArray, List.getElem_cons_zero, List.getElem_cons_succ, Act.put, List.setIfInBounds_toArray, List.set_cons_zero, List.set_cons_succ]
    clear inv
    have inv := invn
    clear invn
    refine F_take (i := 2) (v := ?_) rfl (by kernel_rfl) (by kernel_rfl) (by kernel_rfl) (fun _ _ _ h => h) inv (Or.inl ⟨by rfl, ?_⟩) (by assumption) (fun invn => ?_)
    rotate_left
    · (intro w hSw; (try dsimp only at hSw); go_simp; try with_reducible rfl)
    try simp only [List.getElem_toArray, List.getElem_cons_zero, List.getElem_cons_succ, Act.put, List.setIfInBounds_toArray, List.set_cons_zero, List.set_cons_succ]
    clear inv
    have inv := invn
    clear invn
    refine F_take (i := 3) (v := ?_) rfl (by kernel_rfl) (by kernel_rfl) (by kernel_rfl) (fun _ _ _ h => h) inv (Or.inl ⟨by rfl, ?_⟩) (by assumption) (fun invn => ?_)
    rotate_left
    · (intro w hSw; (try dsimp only at hSw); go_simp; try with_reducible rfl)
    try simp only [List.getElem_toArray, List.getElem_cons_zero, List.getElem_cons_succ, Act.put, List.setIfInBounds_toArray, List.set_cons_zero, List.set_cons_succ]
    clear inv
    have inv := invn
    clear invn
    refine F_take (i := 4) (v := ?_) rfl (by kernel_rfl) (by kernel_rfl) (by kernel_rfl) (fun _ _ _ h => h) inv (Or.inl ⟨by rfl, ?_⟩) (by assumption) (fun invn => ?_)
    rotate_left
    · (intro w hSw; (try dsimp only at hSw); go_simp; try with_reducible rfl)
    try simp only [List.getElem_toArray, List.getElem_cons_zero, List.getElem_cons_succ, Act.put, List.setIfInBounds_toArray, List.set_cons_zero, List.set_cons_succ]
    clear inv
    have inv := invn
    clear invn
    refine F_one (i := 5) (by kernel_rfl) rfl rfl (by omega) inv (fun K hK => ?_)
    try simp only [List.getElem_toArray, List.getElem_cons_zero, List.getElem_cons_succ]
    go_simp
    have hal := ((Below.refl w2.heap.size w2).alloc (Nat.le_refl _) (.cells #[.int .i64 (-2), .int .i64 12, .int .i64 0] 3)).drew
    have HA3 := Lib.hid (HA.out.below hal)
    have HL3 := Lib.hid (show SlI (b + 1) (w2.alloc (.cells #[.int .i64 (-2), .int .i64 12, .int .i64 0] 3)).drew.heap.size (w2.alloc (.cells #[.int .i64 (-2), .int .i64 12, .int .i64 0] 3)).drew cI 1 _ _ from litD_sl w2 3 #[.int .i64 (-2), .int .i64 12, .int .i64 0] [-2, 12, 0] 3 (b + 1) (by omega) (by decide) rfl rfl rfl)
    refine hK.out _ _ (kB2 hal hS) (fun hSn invn => ?_)
    try simp only [List.getElem_toArray, List.getElem_cons_zero, List.getElem_cons_succ, Act.put, List.setIfInBounds_toArray, List.set_cons_zero, List.set_cons_succ]
    clear hK K inv hS
    have inv := invn
    have hS := hSn
    clear invn hSn
    clear hal
    refine F_one (i := 6) (by kernel_rfl) rfl rfl (by omega) inv (fun K hK => ?_)
    try simp only [List.getElem_toArray, List.getElem_cons_zero, List.getElem_cons_succ]
    go_simp
    refine (l1PickInt_any b _ _ _ HA3.out.cur (by decide) HL3.out).mono ?_
    rintro e w3 ⟨u, rfl, -, hc3, ho3⟩
    have HA4 := Lib.hid (HA3.out.step ho3 hc3)
    have hrow4 := HA4.out.au.nxt.rows 0 _ x0s rfl rfl
    rw [H9.out] at hrow4
    have hz4 := ho3.size
    refine hK.out _ _ (⟨HA4.out.blk.cell 2, World.ownsRow.cellAt HA4.out.au.nxt.own 0 (by simp)⟩) (fun hSn invn => ?_)
    try simp only [List.getElem_toArray, List.getElem_cons_zero, List.getElem_cons_succ, Act.put, List.setIfInBounds_toArray, List.set_cons_zero, List.set_cons_succ]
    clear hK K inv hS
    have inv := invn
    have hS := hSn
    clear invn hSn
    clear HA3 HL3 hc3 ho3 x2 n0
    have fz0 := World.ownsRow.frozenAt hrow4 0
    have cz0 := World.ownsRow.cellAt hrow4 0 (by omega)
    obtain ⟨y0, hy0⟩ : ∃ y, x0s[0]? = some y := ⟨_, List.getElem?_eq_getElem (by have := H9.out; omega)⟩
    rw [show (x0s.flatMap cI)[0]? = some (.int .i64 y0) by have := flat_at (E := cI) (k := 1) cI_len hy0 0 _ rfl; simpa using this] at cz0
    have hst := (World.ownsRow.stored hrow4 0 (.int .i64 u)).1
    rw [flatI_set] at hst
    have hlg := (hrow4.lt g0 rfl).2
    have HST := Lib.hid hst
    clear hrow4 hst hy0
    refine F_tail (i := 7) (by kernel_rfl) rfl rfl (by omega) (fun K hK => ?_)
    try simp only [List.getElem_toArray, List.getElem_cons_zero, List.getElem_cons_succ]
    go_simp
    refine hK.out _ _ ?_
    try simp only [List.getElem_toArray, List.getElem_cons_zero, List.getElem_cons_succ, Act.put, List.setIfInBounds_toArray, List.set_cons_zero, List.set_cons_succ]
    clear hK K
    try clear inv hS
    refine F_last (i := 8) (by kernel_rfl) rfl rfl (by omega) (by kernel_rfl) (fun K hK => ?_)
    go_simp
    refine hK _ _ ?_
    clear hK K
    have hns := HA4.out.au.nxt.turn (i := 0) (u := .slice (some ⟨g0, 0, none⟩) 9 c0) (xs' := x0s.set 0 u) (w' := w3.setCell ⟨g0, 0, none⟩ (.int .i64 u)) rfl (by rw [List.length_set, H9.out]; exact HST.out) (fun k _ hk => Below.heap_setCell w3 ⟨g0, 0, none⟩ _ k (fun e => hk (by rw [e]; rfl)))
    have h0m : g0 ∈ blks (Value.slice (some ⟨gN, 0, none⟩) (us'.length + 1) c2 :: .slice (some ⟨g0, 0, none⟩) 9 c0 :: us') := mem_blks.2 ⟨1, _, rfl, rfl⟩
    have hau : AuR (w.heap.size + 1) (w3.setCell ⟨g0, 0, none⟩ (.int .i64 u)) (.slice A1 acc.length c1) (.slice (some ⟨gN, 0, none⟩) (us'.length + 1) c2) (.slice (some ⟨g0, 0, none⟩) 9 c0 :: us') acc ((x0s :: nxt').set 0 (x0s.set 0 u)) :=
      ⟨ownsRow_block HA4.out.au.acc fun k hk => Below.heap_setCell w3 ⟨g0, 0, none⟩ _ k (fun e => HA4.out.au.apart k hk (by rw [e]; exact h0m)), hns, HA4.out.au.apart⟩
    have hg0q : q ≠ g0 := fun e => HA4.out.farq.2 (by rw [e]; exact h0m)
    have hg0r : w.heap.size < g0 := by omega
    have HV := Lib.hid (hau.view st)
    have HBQ := Lib.hid (HA4.out.blk.far (p := ⟨g0, 0, none⟩) (by simpa using hg0q) (.int .i64 u))
    have HBR := Lib.hid (HA4.out.res.far (p := ⟨g0, 0, none⟩) (by simp only; omega) (.int .i64 u))
    have HCU := Lib.hid (HA4.out.cur.set (p := ⟨g0, 0, none⟩) (by simp only; omega) (.int .i64 u))
    have HFR := Lib.hid (HA4.out.frm.setCell (p := ⟨g0, 0, none⟩) (.inr (by simp only; omega)) (.int .i64 u))
    generalize w3.setCell ⟨g0, 0, none⟩ (.int .i64 u) = w4 at *
    clear hns hau fz0 cz0 HA4 HA hlr0 hlq h0m hg0q HST hlg
    have x0 : w4.cell? ⟨q, 0, none⟩ = some (.int .i64 (st)) := HBQ.out.cell 0
    have x1 : w4.cell? ⟨q, 1, none⟩ = some (.slice A1 acc.length c1) := HBQ.out.cell 1
    have x2 : w4.cell? ⟨q, 2, none⟩ = some (.slice (some ⟨gN, 0, none⟩) (us'.length + 1) c2) := HBQ.out.cell 2
    have z0 : w4.cell? ⟨w.heap.size, 0, none⟩ = some (.int .i64 0) := HBR.out.cell 0
    have z1 : w4.cell? ⟨w.heap.size, 1, none⟩ = some (.slice none 0 0) := HBR.out.cell 1
    have z2 : w4.cell? ⟨w.heap.size, 2, none⟩ = some (.slice none 0 0) := HBR.out.cell 2
    have v0 := HBR.out.frozen 0
    have v1 := HBR.out.frozen 1
    have v2 := HBR.out.frozen 2
    have hlr := HBR.out.lt
    have q1 : ¬ q = w.heap.size := by omega
    have q2 : ¬ w.heap.size = q := by omega
    go_wp2_with fail
    exact bodyPost_ret (v := .agg #[.int .i64 (st), .slice A1 acc.length c1, .slice (some ⟨gN, 0, none⟩) (us'.length + 1) c2]) (by simp [results, Try.results70, go_sem, z0, z1, z2, v0, v1, v2, hlr]) rfl ⟨_, _, rfl, any_done HV.out HCU.out HFR.out rfl hbw⟩
  have hd2 : (t == 2) = false := by simpa using ht2
  by_cases ht3 : t = 3
  · subst ht3
    have fN := World.ownsRow.frozenAt HA.out.au.nxt.own 0
    have hc8 : 8 ≤ c0 := by omega
    have hlN := hgNl.2
    go_wp2_with fail
    go_region
    have hst := (World.ownsRow.stored HA.out.au.nxt.own 0 (.slice (some ⟨g0, 0, none⟩) 8 c0)).1
    have hfs : ((Value.slice (some ⟨g0, 0, none⟩) 9 c0 :: us').flatMap cV).set 0 (.slice (some ⟨g0, 0, none⟩) 8 c0) = (Value.slice (some ⟨g0, 0, none⟩) 8 c0 :: us').flatMap cV := rfl
    rw [hfs] at hst
    have hNm : gN ∈ blks (Value.slice (some ⟨gN, 0, none⟩) (us'.length + 1) c2 :: .slice (some ⟨g0, 0, none⟩) 9 c0 :: us') := mem_blks.2 ⟨0, _, rfl, rfl⟩
    have hdis := HA.out.au.nxt.dis
    have hau : AuV (w.heap.size + 1) (w2.setCell ⟨gN, 0, none⟩ (.slice (some ⟨g0, 0, none⟩) 8 c0)).heap.size (w2.setCell ⟨gN, 0, none⟩ (.slice (some ⟨g0, 0, none⟩) 8 c0)) (.agg #[.int .i64 st, .slice A1 acc.length c1, .slice (some ⟨gN, 0, none⟩) (us'.length + 1) c2]) ⟨st, acc, x0s.take 8 :: nxt'⟩ := by
      refine ⟨_, _, rfl, (Own.of_row (xs := acc) (ownsRow_block HA.out.au.acc fun k hk => Below.heap_setCell w2 ⟨gN, 0, none⟩ _ k (fun e => HA.out.au.apart k hk (by rw [e]; exact hNm))) rfl rfl).sl cB_len, Value.slice (some ⟨g0, 0, none⟩) 8 c0 :: us', (Own.of_row (xs := Value.slice (some ⟨g0, 0, none⟩) 8 c0 :: us') hst rfl rfl).sl cV_len, by have := HA.out.au.nxt.len; simpa using this, fun i u xs hu hx => ?_⟩
      have hkeep : ∀ (u : Value) (xs : List Int), (u ∈ (Value.slice (some ⟨g0, 0, none⟩) 9 c0 :: us')) → w2.ownsRow (w.heap.size + 1) 3 1 u xs.length (xs.flatMap cI) → (w2.setCell ⟨gN, 0, none⟩ (.slice (some ⟨g0, 0, none⟩) 8 c0)).ownsRow (w.heap.size + 1) 3 1 u xs.length (xs.flatMap cI) := fun u xs hm h =>
        ownsRow_block h fun k hk => Below.heap_setCell w2 ⟨gN, 0, none⟩ _ k (fun e => by
          obtain ⟨i, hi, hie⟩ := List.getElem_of_mem hm
          have h2 : (Value.slice (some ⟨gN, 0, none⟩) (us'.length + 1) c2 :: .slice (some ⟨g0, 0, none⟩) 9 c0 :: us')[i + 1]? = some u := by rw [List.getElem?_cons_succ, List.getElem?_eq_getElem hi, hie]
          have := filterMap_inj (i := 0) (j := i + 1) hdis rfl h2 (b := gN) rfl (by rw [hk, e])
          omega)
      cases i with
      | zero =>
        simp only [List.getElem?_cons_zero, Option.some.injEq] at hu hx
        subst hu hx
        have h := hkeep _ x0s (by simp) (HA.out.au.nxt.rows 0 _ x0s rfl rfl)
        have h2 := (Own.of_row (xs := x0s) h rfl rfl).sl cI_len
        exact SlI.headT (m := 8) (ys := x0s.drop 8) (by rw [List.take_append_drop]; exact h2) (by rw [List.length_take]; have := H9.out; omega)
      | succ i =>
        rw [List.getElem?_cons_succ] at hu hx
        exact (Own.of_row (xs := xs) (hkeep u xs (List.mem_cons_of_mem _ (List.mem_of_getElem? hu)) (HA.out.au.nxt.rows (i + 1) u xs (by simpa using hu) (by simpa using hx))) rfl rfl).sl cI_len
    have hgNq : q ≠ gN := fun e => HA.out.farq.2 (by rw [e]; exact hNm)
    have hgNr : w.heap.size < gN := by omega
    have HV := Lib.hid (show AuV (w.heap.size + 1) (w2.setCell ⟨gN, 0, none⟩ (.slice (some ⟨g0, 0, none⟩) 8 c0)).drew.heap.size (w2.setCell ⟨gN, 0, none⟩ (.slice (some ⟨g0, 0, none⟩) 8 c0)).drew _ _ from hau)
    have HBQ := Lib.hid ((HA.out.blk.far (p := ⟨gN, 0, none⟩) (by simpa using hgNq) (.slice (some ⟨g0, 0, none⟩) 8 c0)).drew)
    have HBR := Lib.hid ((HA.out.res.far (p := ⟨gN, 0, none⟩) (by simp only; omega) (.slice (some ⟨g0, 0, none⟩) 8 c0)).drew)
    have HCU := Lib.hid ((HA.out.cur.set (p := ⟨gN, 0, none⟩) (by simp only; omega) (.slice (some ⟨g0, 0, none⟩) 8 c0)).keep ((Below.refl _ _).drew))
    have HFR := Lib.hid ((HA.out.frm.setCell (p := ⟨gN, 0, none⟩) (.inr (by simp only; omega)) (.slice (some ⟨g0, 0, none⟩) 8 c0)).drew)
    generalize (w2.setCell ⟨gN, 0, none⟩ (.slice (some ⟨g0, 0, none⟩) 8 c0)).drew = w4 at *
    clear hau hst hfs hNm hdis hgNq fN n0 x2 hlr0 hlq HA hlN
    have x0 : w4.cell? ⟨q, 0, none⟩ = some (.int .i64 (st)) := HBQ.out.cell 0
    have x1 : w4.cell? ⟨q, 1, none⟩ = some (.slice A1 acc.length c1) := HBQ.out.cell 1
    have x2 : w4.cell? ⟨q, 2, none⟩ = some (.slice (some ⟨gN, 0, none⟩) (us'.length + 1) c2) := HBQ.out.cell 2
    have z0 : w4.cell? ⟨w.heap.size, 0, none⟩ = some (.int .i64 0) := HBR.out.cell 0
    have z1 : w4.cell? ⟨w.heap.size, 1, none⟩ = some (.slice none 0 0) := HBR.out.cell 1
    have z2 : w4.cell? ⟨w.heap.size, 2, none⟩ = some (.slice none 0 0) := HBR.out.cell 2
    have v0 := HBR.out.frozen 0
    have v1 := HBR.out.frozen 1
    have v2 := HBR.out.frozen 2
    have hlr := HBR.out.lt
    have q1 : ¬ q = w.heap.size := by omega
    have q2 : ¬ w.heap.size = q := by omega
    go_wp2_with fail
    exact bodyPost_ret (v := .agg #[.int .i64 (st), .slice A1 acc.length c1, .slice (some ⟨gN, 0, none⟩) (us'.length + 1) c2]) (by simp [results, Try.results70, go_sem, z0, z1, z2, v0, v1, v2, hlr]) rfl ⟨_, _, rfl, any_done HV.out HCU.out HFR.out rfl hbw⟩
  · have hd3 : (t == 3) = false := by simpa using ht3
    have HV := Lib.hid (HA.out.au.view st)
    clear n0 x2 hlr0
    have x0 : w2.cell? ⟨q, 0, none⟩ = some (.int .i64 (st)) := HA.out.blk.cell 0
    have x1 : w2.cell? ⟨q, 1, none⟩ = some (.slice A1 acc.length c1) := HA.out.blk.cell 1
    have x2 : w2.cell? ⟨q, 2, none⟩ = some (.slice (some ⟨gN, 0, none⟩) (us'.length + 1) c2) := HA.out.blk.cell 2
    have z0 : w2.cell? ⟨w.heap.size, 0, none⟩ = some (.int .i64 0) := HA.out.res.cell 0
    have z1 : w2.cell? ⟨w.heap.size, 1, none⟩ = some (.slice none 0 0) := HA.out.res.cell 1
    have z2 : w2.cell? ⟨w.heap.size, 2, none⟩ = some (.slice none 0 0) := HA.out.res.cell 2
    have v0 := HA.out.res.frozen 0
    have v1 := HA.out.res.frozen 1
    have v2 := HA.out.res.frozen 2
    have hlr := HA.out.res.lt
    have q1 : ¬ q = w.heap.size := by omega
    have q2 : ¬ w.heap.size = q := by omega
    go_wp2_with fail
    exact bodyPost_ret (v := .agg #[.int .i64 (st), .slice A1 acc.length c1, .slice (some ⟨gN, 0, none⟩) (us'.length + 1) c2]) (by simp [results, Try.results70, go_sem, z0, z1, z2, v0, v1, v2, hlr]) rfl ⟨_, _, rfl, any_done HV.out HA.out.cur HA.out.frm rfl hbw⟩
end Go.Proofs.Ytallglnmeeahiaa

/- What FnPumping draws: an automaton, two states and a number of rounds. -/
namespace Go.Proofs.Ytallglnmeeahiaa
set_option linter.unusedVariables false
set_option linter.unusedSimpArgs false
open Go.ChangeShapes Go.WideShapes Go.ChangeAt Go.RowKit
attribute [local go_sem] ext_cell ext_frozen ext_lt ext_lt1 ext_lt2 ext_lt3 ltn2 ltn3 ltn13 lts1 lts2 lts3

/-- the cursor's bytes do not lie in a block whose cells are no bytes -/
theorem Cur.put {w : World} {b r : Nat} (hc : Cur w b) (hr : Blk w r 27 #[.int .i64 0, .slice none 0 0, .slice none 0 0]) (hb : r < b) (x y z : Value) : Cur (put3 w r x y z) b := by
  obtain ⟨A, bs, c, i, h, h1, ⟨A', c', hv, hl, hm, hx⟩, h3⟩ := hc
  have hp := put3_only w r x y z
  have hbl := h1.lt
  refine ⟨A, bs, c, i, h, h1.only hp (.inr (by omega)), ⟨A', c', hv, hl, hm, fun k u hk => ?_⟩, h3⟩
  obtain ⟨q, o, hA, h0, hqb, hcc⟩ := hx k u hk
  have hqr : q ≠ r := by
    rintro rfl
    have e0 := hcc 0 _ rfl
    rw [hr.cell] at e0
    generalize o + k * 1 + 0 = j at e0
    rcases j with _ | _ | _ | j <;> simp at e0
  exact ⟨q, o, hA, h0, hqb, fun j t ht => (hp.cell (p := ⟨q, o + k * 1 + j, none⟩) (by simp only; omega) (by simp only; omega)).trans (hcc j t ht)⟩
/-- an automaton in the block q, the cursor in b, the result's block r -/
structure TwR (b r q : Nat) (w0 w : World) (ac nx : Value) (a : Au) : Prop where
  res : Blk w r 27 #[.int .i64 0, .slice none 0 0, .slice none 0 0]
  blk : Blk w q 27 #[.int .i64 a.start, ac, nx]
  au : AuV (b + 1) q w (.agg #[.int .i64 a.start, ac, nx]) a
  cur : Cur w b
  bel : Below w0.heap.size w0 w
  at0 : w0.heap.size = r
  ord : r < b ∧ b < q
section
variable {b r q : Nat} {w0 w w' : World} {ac nx : Value} {a : Au}
theorem TwR.step (h : TwR b r q w0 w ac nx a) (ho : Only b (b + 1) w w') (hc : Cur w' b) : TwR b r q w0 w' ac nx a := by
  have hd := h.ord
  have hq := h.blk.lt
  have h0 := h.at0
  exact ⟨h.res.only ho (.inl (by omega)), h.blk.only ho (.inr (by omega)), h.au.only ho (by omega) (.inr (by omega)), hc, h.bel.trans (ho.below (B := w0.heap.size) (by omega) h.bel.size), h.at0, hd⟩
theorem TwR.drew (h : TwR b r q w0 w ac nx a) : TwR b r q w0 w.drew ac nx a := by
  have hb := (Below.refl w.heap.size w).drew
  have hq := h.blk.lt
  exact ⟨h.res.keep hb, h.blk.keep hb, h.au.below hb (by omega), h.cur.keep hb, below_trans h.bel hb, h.at0, h.ord⟩
theorem TwR.alloc (h : TwR b r q w0 w ac nx a) (o : Obj) : TwR b r q w0 (w.alloc o) ac nx a := by
  have hb := (Below.refl w.heap.size w).alloc (Nat.le_refl _) o
  have hq := h.blk.lt
  exact ⟨h.res.keep hb, h.blk.keep hb, h.au.below hb (by omega), h.cur.keep hb, below_trans h.bel hb, h.at0, h.ord⟩
theorem TwR.done (h : TwR b r q w0 w ac nx a) (x y z : Value) : AuV (b + 1) (put3 w r x y z).heap.size (put3 w r x y z) (.agg #[.int .i64 a.start, ac, nx]) a ∧ Cur (put3 w r x y z) b ∧ Below w0.heap.size w0 (put3 w r x y z) := by
  have hp := put3_only w r x y z
  have hd := h.ord
  have hq := h.blk.lt
  have h0 := h.at0
  have hs := hp.size
  exact ⟨(h.au.only hp (by omega) (.inr (by omega))).mono (Nat.le_refl _) (by omega), h.cur.put h.res (by omega) x y z, h.bel.trans (hp.below (B := w0.heap.size) (by omega) h.bel.size)⟩
end
def TwoOut (w : World) (e : Ending) (w' : World) : Prop := ∃ b va a p q, e = .returned (.tuple #[.pointer (some ⟨b, 0, none⟩), va, .int .i64 p, .int .i64 q]) ∧ (w.heap.size ≤ b ∧ AuV (b + 1) w'.heap.size w' va a ∧ Cur w' b ∧ Below w.heap.size w w')
theorem au_len {lo hi : Nat} {w : World} {s : Int} {A1 A2 : Option Addr} {n1 c1 n2 c2 : Nat} {a : Au} (h : AuV lo hi w (.agg #[.int .i64 s, .slice A1 n1 c1, .slice A2 n2 c2]) a) : n1 ≤ maxLen := by
  obtain ⟨ac, nx, hv, ⟨A, c, rfl, hl, hm, -⟩, -⟩ := h
  simp at hv
  obtain ⟨-, ⟨-, h2, -⟩, -⟩ := hv
  omega
set_option maxHeartbeats 4000000 in
theorem l22Two_any (v : Value) (bs : List Int) (w : World) (hv : SlI 0 w.heap.size w cU 1 v bs) :
    Calls Try.prog 36 #[v] w (TwoOut w) := by
  have HV := Lib.hid hv
  have hb0 := (Below.refl w.heap.size w).alloc (Nat.le_refl _) (.cells #[.int .i64 0, .slice none 0 0, .slice none 0 0] 27)
  have hbr := Blk.new w 27 #[.int .i64 0, .slice none 0 0, .slice none 0 0] _ rfl
  have hs0 : (w.alloc (.cells #[.int .i64 0, .slice none 0 0, .slice none 0 0] 27)).heap.size = w.heap.size + 1 := by simp
  obtain ⟨A, n, c, rfl⟩ := hv.shape
  clear hv
  go_enter Try.func36, Try.ntmps36
  go_wp2_with fail
  refine (l1New_any _ bs _ ((HV.out.below hb0 (Nat.le_refl _)).mono (Nat.le_refl _) hb0.size)).mono ?_
  rintro e w1 ⟨b, rfl, hbl, hc1, hbw⟩
  have hbr1 := hbr.keep hbw
  have hb1 := below_trans hb0 hbw
  rw [hs0] at hbl
  clear hbw hbr hb0 hs0 HV
  go_wp2_with fail
  refine (l11Any_any b _ hc1).mono ?_
  rintro e w2 ⟨va, a, rfl, hau, hc2, ho2⟩
  obtain ⟨A1, n1, c1, A2, n2, c2, rfl⟩ := hau.shape
  have hlb := hc1.lt
  have hn1 := au_len hau
  unfold maxLen at hn1
  have hs2 := ho2.size
  have hal := (Below.refl w2.heap.size w2).alloc (Nat.le_refl _) (.cells #[.int .i64 a.start, .slice A1 n1 c1, .slice A2 n2 c2] 27)
  obtain ⟨q, hq⟩ : ∃ q, q = w2.heap.size := ⟨_, rfl⟩
  have HT := Lib.hid (show TwR b w.heap.size q w (w2.alloc (.cells #[.int .i64 a.start, .slice A1 n1 c1, .slice A2 n2 c2] 27)) _ _ a from
    ⟨(hbr1.only ho2 (.inl (by omega))).keep hal, Blk.new w2 _ _ _ hq, (hau.below hal (Nat.le_refl _)).mono (by omega) (by omega), hc2.keep hal, below_trans (hb1.trans (ho2.below (B := w.heap.size) (by omega) hb1.size)) hal, rfl, by omega⟩)
  clear hal hau hc2 ho2 hbr1 hb1 hc1 hs2
  go_upto_region 3 with fail
  rw [← hq]
  generalize w2.alloc (.cells #[.int .i64 a.start, .slice A1 n1 c1, .slice A2 n2 c2] 27) = W at *
  clear hq hlb
  have x0 : W.cell? ⟨q, 0, none⟩ = some (.int .i64 a.start) := HT.out.blk.cell 0
  have x1 : W.cell? ⟨q, 1, none⟩ = some (.slice A1 n1 c1) := HT.out.blk.cell 1
  have x2 : W.cell? ⟨q, 2, none⟩ = some (.slice A2 n2 c2) := HT.out.blk.cell 2
  go_wp2_with fail
  refine F_start 15 (fun w' => w'.cell? ⟨q, 0, none⟩ = some (.int .i64 a.start) ∧ w'.cell? ⟨q, 1, none⟩ = some (.slice A1 n1 c1) ∧ w'.cell? ⟨q, 2, none⟩ = some (.slice A2 n2 c2)) (by kernel_rfl) (by exact ⟨x0, x1, x2⟩) (fun hS inv => ?_)
  refine F_take (i := 0) (v := ?_) rfl (by kernel_rfl) (by kernel_rfl) (by kernel_rfl) (fun _ _ _ h => h) inv (Or.inl ⟨by rfl, ?_⟩) (by assumption) (fun invn => ?_)
  rotate_left
  · (intro w hSw; (try dsimp only at hSw); go_simp; try with_reducible rfl)
  try simp only [List.getElem_toArray, List.getElem_cons_zero, List.getElem_cons_succ, Act.put, List.setIfInBounds_toArray, List.set_cons_zero, List.set_cons_succ]
  clear inv
  have inv := invn
  clear invn
  refine F_take (i := 1) (v := ?_) rfl (by kernel_rfl) (by kernel_rfl) (by kernel_rfl) (fun _ _ _ h => h) inv (Or.inl ⟨by rfl, ?_⟩) (by assumption) (fun invn => ?_)
  rotate_left
  · (intro w hSw; (try dsimp only at hSw); go_simp; try with_reducible rfl)
  try simp only [List.getElem_toArray, List.getElem_cons_zero, List.getElem_cons_succ, Act.put, List.setIfInBounds_toArray, List.set_cons_zero, List.set_cons_succ]
  clear inv
  have inv := invn
  clear invn
  refine F_take (i := 2) (v := ?_) rfl (by kernel_rfl) (by kernel_rfl) (by kernel_rfl) (fun _ _ _ h => h) inv (Or.inl ⟨by rfl, ?_⟩) (by assumption) (fun invn => ?_)
  rotate_left
  · (intro w hSw; (try dsimp only at hSw); go_simp; try with_reducible rfl)
  try simp only [List.getElem_toArray, List.getElem_cons_zero, List.getElem_cons_succ, Act.put, List.setIfInBounds_toArray, List.set_cons_zero, List.set_cons_succ]
  clear inv
  have inv := invn
  clear invn
  refine F_take (i := 3) (v := ?_) rfl (by kernel_rfl) (by kernel_rfl) (by kernel_rfl) (fun _ _ _ h => h) inv (Or.inl ⟨by rfl, ?_⟩) (by assumption) (fun invn => ?_)
  rotate_left
  · (intro w hSw; (try dsimp only at hSw); go_simp; try with_reducible rfl)
  try simp only [List.getElem_toArray, List.getElem_cons_zero, List.getElem_cons_succ, Act.put, List.setIfInBounds_toArray, List.set_cons_zero, List.set_cons_succ]
  clear inv
  have inv := invn
  clear invn
  refine F_take (i := 4) (v := ?_) rfl (by kernel_rfl) (by kernel_rfl) (by kernel_rfl) (fun _ _ _ h => h) inv (Or.inl ⟨by rfl, ?_⟩) (by assumption) (fun invn => ?_)
  rotate_left
  · (intro w hSw; (try dsimp only at hSw); go_simp; try with_reducible rfl)
  try simp only [List.getElem_toArray, List.getElem_cons_zero, List.getElem_cons_succ, Act.put, List.setIfInBounds_toArray, List.set_cons_zero, List.set_cons_succ]
  clear inv
  have inv := invn
  clear invn
  refine F_take (i := 5) (v := ?_) rfl (by kernel_rfl) (by kernel_rfl) (by kernel_rfl) (fun _ _ _ h => h) inv (Or.inl ⟨by rfl, ?_⟩) (by assumption) (fun invn => ?_)
  rotate_left
  · (intro w hSw; (try dsimp only at hSw); go_simp; try with_reducible rfl)
  try simp only [List.getElem_toArray, List.getElem_cons_zero, List.getElem_cons_succ, Act.put, List.setIfInBounds_toArray, List.set_cons_zero, List.set_cons_succ]
  clear inv
  have inv := invn
  clear invn
  refine F_take (i := 6) (v := ?_) rfl (by kernel_rfl) (by kernel_rfl) (by kernel_rfl) (fun _ _ _ h => h) inv (Or.inl ⟨by rfl, ?_⟩) (by assumption) (fun invn => ?_)
  rotate_left
  · (intro w hSw; (try dsimp only at hSw); go_simp; try with_reducible rfl)
  try simp only [List.getElem_toArray, List.getElem_cons_zero, List.getElem_cons_succ, Act.put, List.setIfInBounds_toArray, List.set_cons_zero, List.set_cons_succ]
  clear inv
  have inv := invn
  clear invn
  refine F_take (i := 8) (v := ?_) rfl (by kernel_rfl) (by kernel_rfl) (by kernel_rfl) (fun _ _ _ h => h) inv (Or.inl ⟨by rfl, ?_⟩) (by assumption) (fun invn => ?_)
  rotate_left
  · (intro w hSw; (try dsimp only at hSw); go_simp; try with_reducible rfl)
  try simp only [List.getElem_toArray, List.getElem_cons_zero, List.getElem_cons_succ, Act.put, List.setIfInBounds_toArray, List.set_cons_zero, List.set_cons_succ]
  clear inv
  have inv := invn
  clear invn
  refine F_take (i := 9) (v := ?_) rfl (by kernel_rfl) (by kernel_rfl) (by kernel_rfl) (fun _ _ _ h => h) inv (Or.inl ⟨by rfl, ?_⟩) (by assumption) (fun invn => ?_)
  rotate_left
  · (intro w hSw; (try dsimp only at hSw); go_simp; try with_reducible rfl)
  try simp only [List.getElem_toArray, List.getElem_cons_zero, List.getElem_cons_succ, Act.put, List.setIfInBounds_toArray, List.set_cons_zero, List.set_cons_succ]
  clear inv
  have inv := invn
  clear invn
  refine F_take (i := 10) (v := ?_) rfl (by kernel_rfl) (by kernel_rfl) (by kernel_rfl) (fun _ _ _ h => h) inv (Or.inl ⟨by rfl, ?_⟩) (by assumption) (fun invn => ?_)
  rotate_left
  · (intro w hSw; (try dsimp only at hSw); go_simp; try with_reducible rfl)
  try simp only [List.getElem_toArray, List.getElem_cons_zero, List.getElem_cons_succ, Act.put, List.setIfInBounds_toArray, List.set_cons_zero, List.set_cons_succ]
  clear inv
  have inv := invn
  clear invn
  refine F_take (i := 11) (v := ?_) rfl (by kernel_rfl) (by kernel_rfl) (by kernel_rfl) (fun _ _ _ h => h) inv (Or.inl ⟨by rfl, ?_⟩) (by assumption) (fun invn => ?_)
  rotate_left
  · (intro w hSw; (try dsimp only at hSw); go_simp; try with_reducible rfl)
  try simp only [List.getElem_toArray, List.getElem_cons_zero, List.getElem_cons_succ, Act.put, List.setIfInBounds_toArray, List.set_cons_zero, List.set_cons_succ]
  clear inv
  have inv := invn
  clear invn
  refine F_take (i := 12) (v := ?_) rfl (by kernel_rfl) (by kernel_rfl) (by kernel_rfl) (fun _ _ _ h => h) inv (Or.inl ⟨by rfl, ?_⟩) (by assumption) (fun invn => ?_)
  rotate_left
  · (intro w hSw; (try dsimp only at hSw); go_simp; try with_reducible rfl)
  try simp only [List.getElem_toArray, List.getElem_cons_zero, List.getElem_cons_succ, Act.put, List.setIfInBounds_toArray, List.set_cons_zero, List.set_cons_succ]
  clear inv
  have inv := invn
  clear invn
  have HTd := Lib.hid HT.out.drew
  clear HT x0 x1 x2
  refine F_one (i := 7) (by kernel_rfl) rfl rfl (by omega) inv (fun K hK => ?_)
  try simp only [List.getElem_toArray, List.getElem_cons_zero, List.getElem_cons_succ]
  go_simp
  refine (l1Below_any b _ _ HTd.out.cur).mono ?_
  rintro e w4 ⟨p, rfl, -, hc4, ho4⟩
  have HT4 := Lib.hid (HTd.out.step ho4 hc4)
  clear ho4 hc4 HTd
  refine hK.out _ _ (⟨HT4.out.blk.cell 0, HT4.out.blk.cell 1, HT4.out.blk.cell 2⟩) (fun hSn invn => ?_)
  try simp only [List.getElem_toArray, List.getElem_cons_zero, List.getElem_cons_succ, Act.put, List.setIfInBounds_toArray, List.set_cons_zero, List.set_cons_succ]
  clear hK K inv hS
  have inv := invn
  have hS := hSn
  clear invn hSn
  refine F_one (i := 13) (by kernel_rfl) rfl rfl (by omega) inv (fun K hK => ?_)
  try simp only [List.getElem_toArray, List.getElem_cons_zero, List.getElem_cons_succ]
  go_simp
  refine (l1Below_any b _ _ HT4.out.cur).mono ?_
  rintro e w5 ⟨q', rfl, -, hc5, ho5⟩
  have HT5 := Lib.hid (HT4.out.step ho5 hc5)
  clear ho5 hc5 HT4
  refine hK.out _ _ (⟨HT5.out.blk.cell 0, HT5.out.blk.cell 1, HT5.out.blk.cell 2⟩) (fun hSn invn => ?_)
  try simp only [List.getElem_toArray, List.getElem_cons_zero, List.getElem_cons_succ, Act.put, List.setIfInBounds_toArray, List.set_cons_zero, List.set_cons_succ]
  clear hK K inv hS
  have inv := invn
  have hS := hSn
  clear invn hSn
  refine F_one (i := 14) (by kernel_rfl) rfl rfl (by omega) inv (fun K hK => ?_)
  try simp only [List.getElem_toArray, List.getElem_cons_zero, List.getElem_cons_succ]
  go_simp
  refine hK.out _ _ (⟨HT5.out.blk.cell 0, HT5.out.blk.cell 1, HT5.out.blk.cell 2⟩) (fun hSn invn => ?_)
  try simp only [List.getElem_toArray, List.getElem_cons_zero, List.getElem_cons_succ, Act.put, List.setIfInBounds_toArray, List.set_cons_zero, List.set_cons_succ]
  clear hK K inv hS
  have inv := invn
  have hS := hSn
  clear invn hSn
  have z0 : w5.cell? ⟨w.heap.size, 0, none⟩ = some (.int .i64 0) := HT5.out.res.cell 0
  have z1 : w5.cell? ⟨w.heap.size, 1, none⟩ = some (.slice none 0 0) := HT5.out.res.cell 1
  have z2 : w5.cell? ⟨w.heap.size, 2, none⟩ = some (.slice none 0 0) := HT5.out.res.cell 2
  have v0 := HT5.out.res.frozen 0
  have v1 := HT5.out.res.frozen 1
  have v2 := HT5.out.res.frozen 2
  have hlr := HT5.out.res.lt
  refine F_tail (i := 15) (by kernel_rfl) rfl rfl (by omega) (fun K hK => ?_)
  try simp only [List.getElem_toArray, List.getElem_cons_zero, List.getElem_cons_succ]
  go_simp
  refine hK.out _ _ ?_
  try simp only [List.getElem_toArray, List.getElem_cons_zero, List.getElem_cons_succ, Act.put, List.setIfInBounds_toArray, List.set_cons_zero, List.set_cons_succ]
  clear hK K
  try clear inv hS
  refine F_tail (i := 16) (by kernel_rfl) rfl rfl (by omega) (fun K hK => ?_)
  try simp only [List.getElem_toArray, List.getElem_cons_zero, List.getElem_cons_succ]
  go_simp
  refine hK.out _ _ ?_
  try simp only [List.getElem_toArray, List.getElem_cons_zero, List.getElem_cons_succ, Act.put, List.setIfInBounds_toArray, List.set_cons_zero, List.set_cons_succ]
  clear hK K
  try clear inv hS
  refine F_last (i := 17) (by kernel_rfl) rfl rfl (by omega) (by kernel_rfl) (fun K hK => ?_)
  go_simp
  refine hK _ _ ?_
  clear hK K
  go_wp2_with fail
  all_goals exact bodyPost_ret (v := .tuple #[.pointer (some ⟨b, 0, none⟩), .agg #[.int .i64 a.start, .slice A1 n1 c1, .slice A2 n2 c2], .int .i64 p, .int .i64 q']) (by simp [results, Try.results36, go_sem, z0, z1, z2, v0, v1, v2, hlr]) rfl ⟨b, _, a, _, _, rfl, by have := HT5.out.ord; omega, HT5.out.done _ _ _⟩
theorem TwR.ofTwo {b r : Nat} {w0 w : World} {ac nx : Value} {a : Au} (hr : Blk w r 27 #[.int .i64 0, .slice none 0 0, .slice none 0 0]) (hau : AuV (b + 1) w.heap.size w (.agg #[.int .i64 a.start, ac, nx]) a) (hc : Cur w b) (hb : Below w0.heap.size w0 w) (h0 : w0.heap.size = r) (hrb : r < b) :
    TwR b r w.heap.size w0 (w.alloc (.cells #[.int .i64 a.start, ac, nx] 27)) ac nx a := by
  have hal := (Below.refl w.heap.size w).alloc (Nat.le_refl _) (.cells #[.int .i64 a.start, ac, nx] 27)
  exact ⟨hr.keep hal, Blk.new w _ _ _ rfl, hau.below hal (Nat.le_refl _), hc.keep hal, below_trans hb hal, h0, ⟨hrb, hc.lt⟩⟩
def PumpOut (w : World) (e : Ending) (w' : World) : Prop := ∃ va a p q n, e = .returned (.tuple #[va, .int .i64 p, .int .i64 q, .int .i64 n]) ∧ (AuV 0 w'.heap.size w' va a ∧ Below w.heap.size w w')
set_option maxHeartbeats 4000000 in
theorem drawPumped_any (v : Value) (bs : List Int) (w : World) (hv : SlI 0 w.heap.size w cU 1 v bs) :
    Calls Try.prog 7 #[v] w (PumpOut w) := by
  have HV := Lib.hid hv
  have hb0 := (Below.refl w.heap.size w).alloc (Nat.le_refl _) (.cells #[.int .i64 0, .slice none 0 0, .slice none 0 0] 27)
  have hbr := Blk.new w 27 #[.int .i64 0, .slice none 0 0, .slice none 0 0] _ rfl
  have hs0 : (w.alloc (.cells #[.int .i64 0, .slice none 0 0, .slice none 0 0] 27)).heap.size = w.heap.size + 1 := by simp
  obtain ⟨A, n, c, rfl⟩ := hv.shape
  clear hv
  go_enter Try.func7, Try.ntmps7
  go_wp2_with fail
  refine (l22Two_any _ bs _ ((HV.out.below hb0 (Nat.le_refl _)).mono (Nat.le_refl _) hb0.size)).mono ?_
  rintro e w1 ⟨b, va, a, p, q', rfl, hbl, hau, hc1, hbw⟩
  obtain ⟨A1, n1, c1, A2, n2, c2, rfl⟩ := hau.shape
  rw [hs0] at hbl
  obtain ⟨q, hq⟩ : ∃ q, q = w1.heap.size := ⟨_, rfl⟩
  have HT := Lib.hid (TwR.ofTwo (w0 := w) (hbr.keep hbw) hau hc1 (below_trans hb0 hbw) rfl (by omega))
  clear hbw hbr hb0 hs0 HV hau hc1 hbl
  go_upto_region 2 with fail
  rw [← hq] at HT ⊢
  generalize w1.alloc (.cells #[.int .i64 a.start, .slice A1 n1 c1, .slice A2 n2 c2] 27) = W at *
  clear hq
  have x0 : W.cell? ⟨q, 0, none⟩ = some (.int .i64 a.start) := HT.out.blk.cell 0
  have x1 : W.cell? ⟨q, 1, none⟩ = some (.slice A1 n1 c1) := HT.out.blk.cell 1
  have x2 : W.cell? ⟨q, 2, none⟩ = some (.slice A2 n2 c2) := HT.out.blk.cell 2
  go_wp2_with fail
  refine F_start 8 (fun w' => w'.cell? ⟨q, 0, none⟩ = some (.int .i64 a.start) ∧ w'.cell? ⟨q, 1, none⟩ = some (.slice A1 n1 c1) ∧ w'.cell? ⟨q, 2, none⟩ = some (.slice A2 n2 c2)) (by kernel_rfl) (by exact ⟨x0, x1, x2⟩) (fun hS inv => ?_)
  refine F_take (i := 0) (v := ?_) rfl (by kernel_rfl) (by kernel_rfl) (by kernel_rfl) (fun _ _ _ h => h) inv (Or.inl ⟨by rfl, ?_⟩) (by assumption) (fun invn => ?_)
  rotate_left
  · (intro w hSw; (try dsimp only at hSw); go_simp; try with_reducible rfl)
  try simp only [List.getElem_toArray, List.getElem_cons_zero, List.getElem_cons_succ, Act.put, List.setIfInBounds_toArray, List.set_cons_zero, List.set_cons_succ]
  clear inv
  have inv := invn
  clear invn
  refine F_take (i := 1) (v := ?_) rfl (by kernel_rfl) (by kernel_rfl) (by kernel_rfl) (fun _ _ _ h => h) inv (Or.inl ⟨by rfl, ?_⟩) (by assumption) (fun invn => ?_)
  rotate_left
  · (intro w hSw; (try dsimp only at hSw); go_simp; try with_reducible rfl)
  try simp only [List.getElem_toArray, List.getElem_cons_zero, List.getElem_cons_succ, Act.put, List.setIfInBounds_toArray, List.set_cons_zero, List.set_cons_succ]
  clear inv
  have inv := invn
  clear invn
  refine F_take (i := 2) (v := ?_) rfl (by kernel_rfl) (by kernel_rfl) (by kernel_rfl) (fun _ _ _ h => h) inv (Or.inl ⟨by rfl, ?_⟩) (by assumption) (fun invn => ?_)
  rotate_left
  · (intro w hSw; (try dsimp only at hSw); go_simp; try with_reducible rfl)
  try simp only [List.getElem_toArray, List.getElem_cons_zero, List.getElem_cons_succ, Act.put, List.setIfInBounds_toArray, List.set_cons_zero, List.set_cons_succ]
  clear inv
  have inv := invn
  clear invn
  refine F_take (i := 3) (v := ?_) rfl (by kernel_rfl) (by kernel_rfl) (by kernel_rfl) (fun _ _ _ h => h) inv (Or.inl ⟨by rfl, ?_⟩) (by assumption) (fun invn => ?_)
  rotate_left
  · (intro w hSw; (try dsimp only at hSw); go_simp; try with_reducible rfl)
  try simp only [List.getElem_toArray, List.getElem_cons_zero, List.getElem_cons_succ, Act.put, List.setIfInBounds_toArray, List.set_cons_zero, List.set_cons_succ]
  clear inv
  have inv := invn
  clear invn
  have HTd := Lib.hid HT.out.drew
  clear HT x0 x1 x2
  refine F_one (i := 4) (by kernel_rfl) rfl rfl (by omega) inv (fun K hK => ?_)
  try simp only [List.getElem_toArray, List.getElem_cons_zero, List.getElem_cons_succ]
  go_simp
  have HT3 := Lib.hid (HTd.out.alloc (.cells #[.int .i64 0, .int .i64 1, .int .i64 2, .int .i64 5, .int .i64 12, .int .i64 13, .int .i64 (-1)] 3))
  have HL3 := Lib.hid (litD_sl W.drew 3 #[.int .i64 0, .int .i64 1, .int .i64 2, .int .i64 5, .int .i64 12, .int .i64 13, .int .i64 (-1)] [0, 1, 2, 5, 12, 13, -1] 7 (b + 1) (by have h1 := HTd.out.ord; have h2 := HTd.out.blk.lt; omega) (by decide) rfl rfl rfl)
  refine hK.out _ _ (⟨HT3.out.blk.cell 0, HT3.out.blk.cell 1, HT3.out.blk.cell 2⟩) (fun hSn invn => ?_)
  try simp only [List.getElem_toArray, List.getElem_cons_zero, List.getElem_cons_succ, Act.put, List.setIfInBounds_toArray, List.set_cons_zero, List.set_cons_succ]
  clear hK K inv hS
  have inv := invn
  have hS := hSn
  clear invn hSn
  refine F_one (i := 5) (by kernel_rfl) rfl rfl (by omega) inv (fun K hK => ?_)
  try simp only [List.getElem_toArray, List.getElem_cons_zero, List.getElem_cons_succ]
  go_simp
  refine (l1PickInt_any b _ _ _ HT3.out.cur (by decide) HL3.out).mono ?_
  rintro e w5 ⟨m, rfl, -, hc5, ho5⟩
  have HT5 := Lib.hid (HT3.out.step ho5 hc5)
  clear ho5 hc5 HT3 HL3
  refine hK.out _ _ (⟨HT5.out.blk.cell 0, HT5.out.blk.cell 1, HT5.out.blk.cell 2⟩) (fun hSn invn => ?_)
  try simp only [List.getElem_toArray, List.getElem_cons_zero, List.getElem_cons_succ, Act.put, List.setIfInBounds_toArray, List.set_cons_zero, List.set_cons_succ]
  clear hK K inv hS
  have inv := invn
  have hS := hSn
  clear invn hSn
  have z0 : w5.cell? ⟨w.heap.size, 0, none⟩ = some (.int .i64 0) := HT5.out.res.cell 0
  have z1 : w5.cell? ⟨w.heap.size, 1, none⟩ = some (.slice none 0 0) := HT5.out.res.cell 1
  have z2 : w5.cell? ⟨w.heap.size, 2, none⟩ = some (.slice none 0 0) := HT5.out.res.cell 2
  have v0 := HT5.out.res.frozen 0
  have v1 := HT5.out.res.frozen 1
  have v2 := HT5.out.res.frozen 2
  have hlr := HT5.out.res.lt
  have hb6 := HT5.out.blk.only (put3_only w5 w.heap.size (.int .i64 a.start) (.slice A1 n1 c1) (.slice A2 n2 c2)) (.inr (by have := HT5.out.ord; omega))
  have HB6 := Lib.hid hb6
  clear hb6
  refine F_one (i := 6) (by kernel_rfl) rfl rfl (by omega) inv (fun K hK => ?_)
  try simp only [List.getElem_toArray, List.getElem_cons_zero, List.getElem_cons_succ]
  go_simp
  refine hK.out _ _ (⟨HB6.out.cell 0, HB6.out.cell 1, HB6.out.cell 2⟩) (fun hSn invn => ?_)
  try simp only [List.getElem_toArray, List.getElem_cons_zero, List.getElem_cons_succ, Act.put, List.setIfInBounds_toArray, List.set_cons_zero, List.set_cons_succ]
  clear hK K inv hS
  have inv := invn
  have hS := hSn
  clear invn hSn
  refine F_one (i := 7) (by kernel_rfl) rfl rfl (by omega) inv (fun K hK => ?_)
  try simp only [List.getElem_toArray, List.getElem_cons_zero, List.getElem_cons_succ]
  go_simp
  refine hK.out _ _ (⟨HB6.out.cell 0, HB6.out.cell 1, HB6.out.cell 2⟩) (fun hSn invn => ?_)
  try simp only [List.getElem_toArray, List.getElem_cons_zero, List.getElem_cons_succ, Act.put, List.setIfInBounds_toArray, List.set_cons_zero, List.set_cons_succ]
  clear hK K inv hS
  have inv := invn
  have hS := hSn
  clear invn hSn
  refine F_tail (i := 8) (by kernel_rfl) rfl rfl (by omega) (fun K hK => ?_)
  try simp only [List.getElem_toArray, List.getElem_cons_zero, List.getElem_cons_succ]
  go_simp
  refine hK.out _ _ ?_
  try simp only [List.getElem_toArray, List.getElem_cons_zero, List.getElem_cons_succ, Act.put, List.setIfInBounds_toArray, List.set_cons_zero, List.set_cons_succ]
  clear hK K
  try clear inv hS
  refine F_last (i := 9) (by kernel_rfl) rfl rfl (by omega) (by kernel_rfl) (fun K hK => ?_)
  go_simp
  refine hK _ _ ?_
  clear hK K
  go_wp2_with fail
  have HD := HT5.out.done (.int .i64 a.start) (.slice A1 n1 c1) (.slice A2 n2 c2)
  exact bodyPost_ret (v := .tuple #[.agg #[.int .i64 a.start, .slice A1 n1 c1, .slice A2 n2 c2], .int .i64 p, .int .i64 q', .int .i64 m]) (by simp [results, Try.results7, go_sem, z0, z1, z2, v0, v1, v2, hlr]) rfl ⟨_, a, _, _, _, rfl, HD.1.mono (Nat.zero_le _) (Nat.le_refl _), HD.2.2⟩
end Go.Proofs.Ytallglnmeeahiaa

/- LoopImages, plainly: the pairs of states that one word leads to, in the order in which they are met. -/
namespace Go.Proofs.Ytallglnmeeahiaa
set_option linter.unusedVariables false
set_option linter.unusedSimpArgs false

def nxP (f : Int → Nat → Int) (u : Int × Int) (k : Nat) : Int × Int := (f u.1 k, f u.2 k)
/-- one letter: the pairs met so far -/
def metP (f : Int → Nat → Int) (u : Int × Int) (r : List (Int × Int)) (k : Nat) : List (Int × Int) :=
  if (nxP f u k).2 < 0 ∨ nxP f u k ∈ r then r else r ++ [nxP f u k]
/-- the letters below k -/
def rowP (f : Int → Nat → Int) (u : Int × Int) (r : List (Int × Int)) : Nat → List (Int × Int)
  | 0 => r
  | k + 1 => metP f u (rowP f u r k) k
/-- the first k pairs taken -/
def imgP (f : Int → Nat → Int) (L : Nat) (s : Int × Int) : Nat → List (Int × Int)
  | 0 => []
  | k + 1 => match (s :: imgP f L s k)[k]? with
    | none => imgP f L s k
    | some u => rowP f u (imgP f L s k) L
/-- those that lie at q -/
def outP (q : Int) (r : List (Int × Int)) : List Int := (r.filter fun z => decide (z.2 = q)).map (·.1)

theorem metP_pre (f : Int → Nat → Int) (u : Int × Int) (r : List (Int × Int)) (k : Nat) : r <+: metP f u r k := by
  unfold metP; split
  · exact List.prefix_refl _
  · exact ⟨_, rfl⟩
theorem rowP_pre (f : Int → Nat → Int) (u : Int × Int) (r : List (Int × Int)) : ∀ k, r <+: rowP f u r k
  | 0 => List.prefix_refl _
  | k + 1 => (rowP_pre f u r k).trans (metP_pre f u _ k)
theorem imgP_succ {f : Int → Nat → Int} {L : Nat} {s : Int × Int} {k : Nat} {u : Int × Int} (h : (s :: imgP f L s k)[k]? = some u) : imgP f L s (k + 1) = rowP f u (imgP f L s k) L := by
  simp only [imgP, h]
theorem imgP_stop {f : Int → Nat → Int} {L : Nat} {s : Int × Int} {k : Nat} (h : (s :: imgP f L s k)[k]? = none) : imgP f L s (k + 1) = imgP f L s k := by
  simp only [imgP, h]
theorem imgP_pre (f : Int → Nat → Int) (L : Nat) (s : Int × Int) (k : Nat) : imgP f L s k <+: imgP f L s (k + 1) := by
  rcases h : (s :: imgP f L s k)[k]? with _ | u
  · rw [imgP_stop h]; exact List.prefix_refl _
  · rw [imgP_succ h]; exact rowP_pre f u _ L
theorem metP_good {f : Int → Nat → Int} {N : Int} (hf : ∀ s k, -1 ≤ f s k ∧ f s k < N) {u : Int × Int} {r : List (Int × Int)} (h : r.Nodup ∧ ∀ z ∈ r, -1 ≤ z.1 ∧ z.1 < N ∧ 0 ≤ z.2 ∧ z.2 < N) (k : Nat) :
    (metP f u r k).Nodup ∧ ∀ z ∈ metP f u r k, -1 ≤ z.1 ∧ z.1 < N ∧ 0 ≤ z.2 ∧ z.2 < N := by
  unfold metP; split
  · exact h
  · rename_i hc
    rw [not_or] at hc
    refine ⟨List.nodup_append.2 ⟨h.1, by simp, fun a ha b hb => ?_⟩, fun z hz => ?_⟩
    · rw [List.mem_singleton] at hb
      subst hb
      exact fun e => hc.2 (e ▸ ha)
    · rcases List.mem_append.1 hz with hz | hz
      · exact h.2 z hz
      · rw [List.mem_singleton] at hz
        subst hz
        exact ⟨(hf _ _).1, (hf _ _).2, by have := hc.1; omega, (hf _ _).2⟩
theorem rowP_good {f : Int → Nat → Int} {N : Int} (hf : ∀ s k, -1 ≤ f s k ∧ f s k < N) {u : Int × Int} {r : List (Int × Int)} (h : r.Nodup ∧ ∀ z ∈ r, -1 ≤ z.1 ∧ z.1 < N ∧ 0 ≤ z.2 ∧ z.2 < N) : ∀ k : Nat,
    (rowP f u r k).Nodup ∧ ∀ z ∈ rowP f u r k, -1 ≤ z.1 ∧ z.1 < N ∧ 0 ≤ z.2 ∧ z.2 < N
  | 0 => h
  | k + 1 => metP_good hf (rowP_good hf h k) k
theorem imgP_good {f : Int → Nat → Int} {N : Int} (hf : ∀ s k, -1 ≤ f s k ∧ f s k < N) (L : Nat) (s : Int × Int) : ∀ k : Nat,
    (imgP f L s k).Nodup ∧ ∀ z ∈ imgP f L s k, -1 ≤ z.1 ∧ z.1 < N ∧ 0 ≤ z.2 ∧ z.2 < N
  | 0 => ⟨List.nodup_nil, fun z hz => by cases hz⟩
  | k + 1 => by
    rcases h : (s :: imgP f L s k)[k]? with _ | u
    · rw [imgP_stop h]; exact imgP_good hf L s k
    · rw [imgP_succ h]; exact rowP_good hf (imgP_good hf L s k) L
theorem nodup_subN : ∀ (s l : List Nat), s.Nodup → (∀ x ∈ s, x ∈ l) → s.length ≤ l.length
  | [], _, _, _ => Nat.zero_le _
  | x :: s, l, hn, h => by
    obtain ⟨h1, h2⟩ := List.nodup_cons.1 hn
    have hx := h x (by simp)
    have := nodup_subN s (l.erase x) h2 (fun y hy => by
      have hne : y ≠ x := fun e => h1 (e ▸ hy)
      exact (List.mem_erase_of_ne hne).2 (h y (List.mem_cons_of_mem _ hy)))
    rw [List.length_erase_of_mem hx] at this
    have hp := List.length_pos_of_mem hx
    rw [List.length_cons]
    omega
/-- so there are at most (N + 1) * N of them -/
theorem good_len {N : Nat} {r : List (Int × Int)} (h : r.Nodup ∧ ∀ z ∈ r, -1 ≤ z.1 ∧ z.1 < (N : Int) ∧ 0 ≤ z.2 ∧ z.2 < (N : Int)) : r.length ≤ (N + 1) * N := by
  have h1 := nodup_subN (r.map fun z => (z.1 + 1).toNat * N + z.2.toNat) (List.range ((N + 1) * N)) ?_ ?_
  · simpa using h1
  · rw [List.Nodup, List.pairwise_map]
    refine List.Pairwise.imp_of_mem ?_ h.1
    intro a b ha hb hne he
    refine hne ?_
    obtain ⟨a1, a2, a3, a4⟩ := h.2 a ha
    obtain ⟨b1, b2, b3, b4⟩ := h.2 b hb
    have hN : 0 < N := by omega
    have hd : ((a.1 + 1).toNat * N + a.2.toNat) / N = ((b.1 + 1).toNat * N + b.2.toNat) / N := by rw [he]
    have hm : ((a.1 + 1).toNat * N + a.2.toNat) % N = ((b.1 + 1).toNat * N + b.2.toNat) % N := by rw [he]
    rw [Nat.mul_comm, Nat.mul_add_div hN, Nat.div_eq_of_lt (by omega), Nat.mul_comm _ N, Nat.mul_add_div hN, Nat.div_eq_of_lt (by omega)] at hd
    rw [Nat.mul_comm, Nat.mul_add_mod, Nat.mod_eq_of_lt (by omega), Nat.mul_comm _ N, Nat.mul_add_mod, Nat.mod_eq_of_lt (by omega)] at hm
    exact Prod.ext (by omega) (by omega)
  · intro x hx
    obtain ⟨z, hz, rfl⟩ := List.mem_map.1 hx
    obtain ⟨z1, z2, z3, z4⟩ := h.2 z hz
    rw [List.mem_range]
    have h2 : (z.1 + 1).toNat * N ≤ N * N := Nat.mul_le_mul_right _ (by omega)
    rw [Nat.add_mul]
    omega
/-- the numbers at q: each once, in bounds -/
theorem outP_good {N q : Int} {r : List (Int × Int)} (h : r.Nodup ∧ ∀ z ∈ r, -1 ≤ z.1 ∧ z.1 < N ∧ 0 ≤ z.2 ∧ z.2 < N) : (outP q r).Nodup ∧ ∀ x ∈ outP q r, -1 ≤ x ∧ x < N := by
  refine ⟨?_, fun x hx => ?_⟩
  · unfold outP
    rw [List.Nodup, List.pairwise_map]
    refine List.Pairwise.imp_of_mem ?_ (List.Pairwise.filter _ h.1)
    intro a b ha hb hne he
    refine hne ?_
    have ha2 := of_decide_eq_true (List.mem_filter.1 ha).2
    have hb2 := of_decide_eq_true (List.mem_filter.1 hb).2
    exact Prod.ext he (ha2.trans hb2.symm)
  · obtain ⟨z, hz, rfl⟩ := List.mem_map.1 hx
    have := h.2 z (List.mem_filter.1 hz).1
    exact ⟨this.1, this.2.1⟩
theorem mem_outP {q x : Int} {r : List (Int × Int)} : x ∈ outP q r ↔ (x, q) ∈ r := by
  unfold outP
  rw [List.mem_map]
  constructor
  · rintro ⟨z, hz, rfl⟩
    obtain ⟨h1, h2⟩ := List.mem_filter.1 hz
    rw [← of_decide_eq_true h2]
    exact h1
  · intro h
    exact ⟨_, List.mem_filter.2 ⟨h, by simp⟩, rfl⟩
theorem outP_metP_new {f : Int → Nat → Int} {u : Int × Int} {r : List (Int × Int)} {k : Nat} {q : Int} (h : ¬ ((nxP f u k).2 < 0 ∨ nxP f u k ∈ r)) :
    outP q (metP f u r k) = if (nxP f u k).2 = q then outP q r ++ [(nxP f u k).1] else outP q r := by
  unfold metP outP
  rw [if_neg h]
  by_cases hq : (nxP f u k).2 = q <;> simp [hq]
/-- the reference's side: a pair met again adds nothing -/
theorem mem_outP_metP {f : Int → Nat → Int} {u : Int × Int} {r : List (Int × Int)} {k : Nat} {q : Int} (hz : ¬ (nxP f u k).2 < 0) (x : Int) :
    x ∈ outP q (metP f u r k) ↔ x ∈ outP q r ∨ ((nxP f u k).2 = q ∧ x = (nxP f u k).1) := by
  rw [mem_outP, mem_outP]
  unfold metP
  by_cases hr : nxP f u k ∈ r
  · rw [if_pos (.inr hr)]
    constructor
    · exact .inl
    · rintro (h | ⟨h1, rfl⟩)
      · exact h
      · rw [← h1]; exact hr
  · rw [if_neg (by rw [not_or]; exact ⟨hz, hr⟩), List.mem_append, List.mem_singleton]
    constructor
    · rintro (h | h)
      · exact .inl h
      · exact .inr ⟨by rw [← h], by rw [← h]⟩
    · rintro (h | ⟨h1, h2⟩)
      · exact .inl h
      · exact .inr (Prod.ext h2 h1.symm)
/-- all pairs taken: nothing more comes -/
theorem imgP_still {f : Int → Nat → Int} {L : Nat} {s : Int × Int} {k : Nat} (h : (imgP f L s k).length < k) : ∀ j, imgP f L s (k + j) = imgP f L s k
  | 0 => rfl
  | j + 1 => by
    have ih := imgP_still h j
    rw [← Nat.add_assoc, imgP_stop, ih]
    rw [ih]
    exact List.getElem?_eq_none (by simp; omega)

end Go.Proofs.Ytallglnmeeahiaa

/- The program's functions on automata. -/
namespace Go.Proofs.Ytallglnmeeahiaa
set_option linter.unusedVariables false
set_option linter.unusedSimpArgs false
open Go.ChangeShapes Go.WideShapes Go.ChangeAt Go.RowKit
attribute [local go_sem] ext_cell ext_frozen ext_lt ext_lt1 ext_lt2 ext_lt3 ltn2 ltn3 ltn13 lts1 lts2 lts3

theorem within_any (n a b : Int) (w : World) : Calls Try.prog 39 #[.int .i64 n, .int .i64 a, .int .i64 b] w fun e w' => e = .returned (.bool (wi n a b)) ∧ w' = w := by
  unfold wi
  by_cases h1 : a ≤ n
  · have e1 : decide (a ≤ n) = true := by simpa using h1
    by_cases h2 : n ≤ b
    · go_enter Try.func39, Try.ntmps39
      go_wp2
      go_ret
      exact ⟨by simp [h1, h2], rfl⟩
    · go_enter Try.func39, Try.ntmps39
      go_wp2
      go_ret
      exact ⟨by simp [h1]; try omega, rfl⟩
  · have e1 : decide (a ≤ n) = false := by simpa using h1
    go_enter Try.func39, Try.ntmps39
    go_wp2
    go_ret
    exact ⟨by simp [h1]; try omega, rfl⟩

set_option maxHeartbeats 1000000 in
theorem implValidAutomaton (v : Value) (a : Au) (w : World) (hv : AuV 0 w.heap.size w v a) :
    Calls Try.prog 71 #[v] w fun e w' => e = .returned (.bool (auOk a)) ∧ Below w.heap.size w w' := by
  obtain ⟨ac, nx, rfl, ⟨A1, c1, rfl, hl1, hm1, -⟩, us, ⟨A2, c2, rfl, hl2, hm2, hx2⟩, hul, hrows⟩ := hv
  rw [hul] at hl2 ⊢
  have HU := Lib.hid hul
  clear hul
  unfold maxLen at hm1 hm2
  have hb0 : Below w.heap.size w (w.alloc (.cells #[.int .i64 a.start, .slice A1 a.accept.length c1, .slice A2 a.next.length c2] 27)) := (Below.refl _ _).alloc (Nat.le_refl _) _
  have HW := Lib.hid within_any
  by_cases g1 : wi a.accept.length 1 12 = true
  · by_cases g2 : wi a.start 0 ((a.accept.length : Int) - 1) = true
    · by_cases g3 : a.next.length = a.accept.length
      · have HG3 := Lib.hid g3
        have g3' : ((a.next.length : Int) != (a.accept.length : Int)) = false := by simp; omega
        have hr : auOk a = a.next.all (rowOk a.accept.length) := by simp [auOk, g1, g2, g3]
        have HR := Lib.hid hr
        clear hr g3
        obtain ⟨hn1, hn2⟩ := wi_iff.1 g1
        go_enter Try.func71, Try.ntmps71
        go_wp2_with (go_at_call 39; refine (HW.out _ _ _ _).mono ?_; rintro e w' ⟨rfl, rfl⟩)
        go_loop [32] (fun ii => ∃ i : Nat, i ≤ a.next.length ∧ ii = .int .i64 i ∧ (a.next.take i).all (rowOk a.accept.length) = true) (fun ii => a.next.length - (intOf ii).toNat)
        case atStart => exact ⟨0, Nat.zero_le _, rfl, rfl⟩
        case round =>
          obtain ⟨i, hi, rfl, hall⟩ := hrel
          have HA := Lib.hid hall
          clear hall
          by_cases hlt : i < a.next.length
          · obtain ⟨u, hu⟩ : ∃ u, us[i]? = some u := ⟨_, List.getElem?_eq_getElem (by have := HU.out; omega)⟩
            obtain ⟨b, o, rfl, -, hb1, hc⟩ := hx2 i u hu
            have hxi : a.next[i]? = some a.next[i] := List.getElem?_eq_getElem hlt
            have hvi := hrows i u _ hu hxi
            generalize a.next[i] = row at hvi hxi
            have c0 := hc 0 _ rfl
            simp only [Nat.mul_one, Nat.add_zero] at c0
            obtain ⟨A3, c3, rfl, hl3, hm3, hx3⟩ := hvi
            unfold maxLen at hm3
            have HX := Lib.hid hxi
            clear hc hx2 hu hxi hrows
            go_wp2_with fail
            go_loop [38] (fun jj => ∃ j : Nat, j ≤ row.length ∧ jj = .int .i64 j ∧ (row.take j).all (fun t => wi t (-1) ((a.accept.length : Int) - 1)) = true) (fun jj => row.length - (intOf jj).toNat)
            case atStart => exact ⟨0, Nat.zero_le _, rfl, rfl⟩
            case round =>
              obtain ⟨j, hj, rfl, hall2⟩ := hrel
              have HB := Lib.hid hall2
              clear hall2
              by_cases hlt2 : j < row.length
              · have hxj : row[j]? = some row[j] := List.getElem?_eq_getElem hlt2
                obtain ⟨b2, o2, rfl, -, hb2, hc2⟩ := hx3 j _ hxj
                generalize row[j] = t at hc2 hxj
                have d0 := hc2 0 _ rfl
                simp only [Nat.mul_one, Nat.add_zero] at d0
                have HXJ := Lib.hid hxj
                clear hc2 hx3 hxj
                by_cases g4 : wi t (-1) ((a.accept.length : Int) - 1) = true
                · go_wp2_with (go_at_call 39; refine (HW.out _ _ _ _).mono ?_; rintro e w' ⟨rfl, rfl⟩)
                  go_round
                  case rel => exact ⟨j + 1, by omega, by go_num, all_take_succ HXJ.out HB.out g4⟩
                  case measure => simp [intOf]; omega
                · simp only [Bool.not_eq_true] at g4
                  have hfin : auOk a = false := by
                    rw [HR.out]
                    refine all_false_of HX.out ?_
                    rw [rowOk, all_false_of HXJ.out g4]
                    rfl
                  have HF := Lib.hid hfin
                  clear hfin
                  go_wp2_with (go_at_call 39; refine (HW.out _ _ _ _).mono ?_; rintro e w' ⟨rfl, rfl⟩)
                  go_ret
                  exact ⟨by rw [HF.out]; rfl, hb0⟩
              · obtain rfl : j = row.length := by omega
                have hall3 : row.all (fun t => wi t (-1) ((a.accept.length : Int) - 1)) = true := by have := HB.out; rwa [List.take_length] at this
                have H3 := Lib.hid hall3
                clear hall3
                clear hx3
                by_cases g9 : row.length = 9
                · have g9' : ((row.length : Int) != 9) = false := by simp; omega
                  have hok : rowOk a.accept.length row = true := by rw [rowOk, H3.out, g9]; rfl
                  have HO := Lib.hid hok
                  clear hok g9
                  go_wp2_with fail
                  go_round
                  case rel => exact ⟨i + 1, by omega, by go_num, all_take_succ HX.out HA.out HO.out⟩
                  case measure => simp [intOf]; omega
                · have g9' : ((row.length : Int) != 9) = true := by simp; omega
                  have hfin : auOk a = false := by
                    rw [HR.out]
                    refine all_false_of HX.out ?_
                    rw [rowOk]
                    simp [g9]
                  have HF := Lib.hid hfin
                  clear hfin g9
                  go_wp2_with fail
                  go_ret
                  exact ⟨by rw [HF.out]; rfl, hb0⟩
          · obtain rfl : i = a.next.length := by omega
            have hfin : auOk a = true := by rw [HR.out]; have := HA.out; rwa [List.take_length] at this
            have HF := Lib.hid hfin
            clear hfin hx2 hrows
            go_wp2_with fail
            go_ret
            exact ⟨by rw [HF.out]; rfl, hb0⟩
      · have g3' : ((a.next.length : Int) != (a.accept.length : Int)) = true := by simp; omega
        have hr : auOk a = false := by simp [auOk, g3]
        have HR := Lib.hid hr
        clear hr g3
        go_enter Try.func71, Try.ntmps71
        go_wp2_with (go_at_call 39; refine (HW.out _ _ _ _).mono ?_; rintro e w' ⟨rfl, rfl⟩)
        go_ret
        exact ⟨by rw [HR.out]; rfl, hb0⟩
    · simp only [Bool.not_eq_true] at g2
      have hr : auOk a = false := by simp [auOk, g2]
      have HR := Lib.hid hr
      clear hr
      go_enter Try.func71, Try.ntmps71
      go_wp2_with (go_at_call 39; refine (HW.out _ _ _ _).mono ?_; rintro e w' ⟨rfl, rfl⟩)
      go_ret
      exact ⟨by rw [HR.out]; rfl, hb0⟩
  · simp only [Bool.not_eq_true] at g1
    have hr : auOk a = false := by simp [auOk, g1]
    have HR := Lib.hid hr
    clear hr
    go_enter Try.func71, Try.ntmps71
    go_wp2_with (go_at_call 39; refine (HW.out _ _ _ _).mono ?_; rintro e w' ⟨rfl, rfl⟩)
    go_ret
    exact ⟨by rw [HR.out]; rfl, hb0⟩

set_option maxHeartbeats 1000000 in
theorem statesOk_any (v lv : Value) (a : Au) (ss : List Int) (w : World) (hv : AuV 0 w.heap.size w v a) (hl : SlE w cI 1 lv ss) :
    Calls Try.prog 38 #[v, lv] w fun e w' => e = .returned (.bool (ss.all (fun s => wi s 0 ((a.accept.length : Int) - 1)) && auOk a)) ∧ Below w.heap.size w w' := by
  have hv0 := hv
  obtain ⟨ac, nx, rfl, ⟨A1, c1, rfl, hl1, hm1, -⟩, -⟩ := hv
  obtain ⟨A2, c2, rfl, hl2, hm2, hx2⟩ := hl
  unfold maxLen at hm1 hm2
  have hb0 : Below w.heap.size w (w.alloc (.cells #[.int .i64 a.start, .slice A1 a.accept.length c1, nx] 27)) := (Below.refl _ _).alloc (Nat.le_refl _) _
  have HW := Lib.hid within_any
  go_enter Try.func38, Try.ntmps38
  go_wp2_with fail
  go_loop [9] (fun ii => ∃ i : Nat, i ≤ ss.length ∧ ii = .int .i64 i ∧ (ss.take i).all (fun s => wi s 0 ((a.accept.length : Int) - 1)) = true) (fun ii => ss.length - (intOf ii).toNat)
  case atStart => exact ⟨0, Nat.zero_le _, rfl, rfl⟩
  case round =>
    obtain ⟨i, hi, rfl, hall⟩ := hrel
    have HA := Lib.hid hall
    clear hall
    by_cases hlt : i < ss.length
    · have hxi : ss[i]? = some ss[i] := List.getElem?_eq_getElem hlt
      obtain ⟨b, o, rfl, -, hb1, hc⟩ := hx2 i _ hxi
      generalize ss[i] = s at hc hxi
      have c0 := hc 0 _ rfl
      simp only [Nat.mul_one, Nat.add_zero] at c0
      have HX := Lib.hid hxi
      clear hc hx2 hxi
      by_cases g4 : wi s 0 ((a.accept.length : Int) - 1) = true
      · go_wp2_with (go_at_call 39; refine (HW.out _ _ _ _).mono ?_; rintro e w' ⟨rfl, rfl⟩)
        go_round
        case rel => exact ⟨i + 1, by omega, by go_num, all_take_succ HX.out HA.out g4⟩
        case measure => simp [intOf]; omega
      · simp only [Bool.not_eq_true] at g4
        have hfin : ss.all (fun s => wi s 0 ((a.accept.length : Int) - 1)) = false := all_false_of HX.out g4
        have HF := Lib.hid hfin
        clear hfin
        go_wp2_with (go_at_call 39; refine (HW.out _ _ _ _).mono ?_; rintro e w' ⟨rfl, rfl⟩)
        go_ret
        exact ⟨by rw [HF.out]; rfl, hb0⟩
    · obtain rfl : i = ss.length := by omega
      have hfin : ss.all (fun s => wi s 0 ((a.accept.length : Int) - 1)) = true := by have := HA.out; rwa [List.take_length] at this
      have HF := Lib.hid hfin
      clear hfin hx2
      go_wp2_with fail
      refine (implValidAutomaton _ a _ (hv0.keep hb0)).mono ?_
      rintro e w1 ⟨rfl, hb1⟩
      go_wp2_with fail
      go_ret
      exact ⟨by rw [HF.out]; rfl, below_trans hb0 hb1⟩
end Go.Proofs.Ytallglnmeeahiaa

