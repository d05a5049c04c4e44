/- 'laws.FnPumping' returns true for every list of bytes, without any condition: no rounds leave a state as it is, one round is the loop's images, and a state with a loop comes back to itself. -/
import Derived.Test.YtallglnmeeahiaaPartEHONMLDA
import Derived.Test.YtallglnmeeahiaaPartOFPIKNKI
import Derived.Test.YtallglnmeeahiaaPartKHLNNBFN
import Derived.Test.YtallglnmeeahiaaPartCHEIPHLP
import Derived.Test.YtallglnmeeahiaaPartJOHKHNAH
import Derived.Test.YtallglnmeeahiaaPartGEEOALPK
namespace Go.Proofs.Ytallglnmeeahiaa.fnPumping
set_option linter.unusedVariables false
set_option linter.unusedSimpArgs false
open Go.ChangeShapes Go.WideShapes Go.ChangeAt Go.RowKit
attribute [local go_sem] ext_cell ext_frozen ext_lt ext_lt1 ext_lt2 ext_lt3 ltn2 ltn3 ltn13 lts1 lts2 lts3

/-- the only one that may come up: an operation below n whose guard is met -/
theorem F_oneG {P : Program} {ops : Array Oper} {Q : Exit → Act → World → Prop} {md : Region.Mode} {S : World → Prop} {n : Nat} {i : Nat} {oi : Oper} {f : Nat} {listed : Array Bool} {a : Act} {w : World} (hr : Region.ready md ops listed = [i]) (hi : ops[i]? = some oi) (hw : Region.wanted oi (yielded ops a.tmps) = true) (hin : i < n) (inv : HeadInv md ops n listed)
    (h : ∀ K : Act → World → Prop, Shut (∀ a' w', S w' → (S w' → HeadInv md ops n (listed.setIfInBounds i true) → wpAnyF P md ops Q S n f (listed.setIfInBounds i true) a' w') → K a' w') → Oper.wp P oi a w K Q) : wpAnyF P md ops Q S n (f + 1) listed a w := by
  refine ⟨fun h0 => (by rw [hr] at h0; cases h0), fun j hj => ?_⟩
  have hj2 := hj
  rw [hr] at hj2
  obtain rfl : j = i := by simpa using hj2
  unfold wpOp
  simp only [hi, hw, if_true]
  exact .inl (h _ (fun a' w' hS hF => ⟨fun _ => hS, hF hS (inv.set hj hin)⟩))
theorem hasB_yes {xs : List Int} {x : Int} (h : x ∈ xs) : hasB xs x = true := by simpa [hasB] using h
set_option maxRecDepth 100000 in
set_option maxHeartbeats 8000000 in
theorem walk (w : World) (v0 : Value) (bs : List Int) (hv0 : SlI 0 w.heap.size w cU 1 v0 bs) :
    Calls Try.prog 3 #[v0] w fun e w' => e = .returned (.bool true) ∧ Below w.heap.size w w' := by
  have HV := Lib.hid hv0
  obtain ⟨A0, c0, rfl, hl0, hm0, -⟩ := hv0
  by_cases hbig : 1048576 < bs.length
  · go_enter Try.func3, Try.ntmps3
    go_wp2_with fail
    refine (big_yes _ _ _ _ hbig (by omega)).mono ?_
    rintro e w' ⟨rfl, rfl⟩
    go_wp2_with fail
    go_ret
    exact ⟨rfl, Below.refl _ _⟩
  go_enter Try.func3, Try.ntmps3
  go_wp2_with fail
  refine (big_no _ _ _ _ hbig).mono ?_
  rintro e w' ⟨rfl, rfl⟩
  clear hbig hl0 hm0
  go_wp2_with fail
  refine (drawPumped_any _ bs _ HV.out).mono ?_
  rintro e w1 ⟨va, a, p, q, n, rfl, hau, hb1⟩
  obtain ⟨A1, n1, c1, A2, n2, c2, rfl⟩ := hau.shape
  have hal := (Below.refl w1.heap.size w1).alloc (Nat.le_refl _) (.cells #[.int .i64 a.start, .slice A1 n1 c1, .slice A2 n2 c2] 27)
  have bg := Blk.new w1 27 #[.int .i64 a.start, .slice A1 n1 c1, .slice A2 n2 c2] _ rfl
  have HAU := Lib.hid (hau.keep hal)
  have HB := Lib.hid (below_trans hb1 hal)
  clear hal hau hb1 HV
  go_upto_region 4 with fail
  generalize w1.alloc (.cells #[.int .i64 a.start, .slice A1 n1 c1, .slice A2 n2 c2] 27) = W at *
  have x0 : W.cell? ⟨w1.heap.size, 0, none⟩ = some (.int .i64 a.start) := bg.cell 0
  have x1 : W.cell? ⟨w1.heap.size, 1, none⟩ = some (.slice A1 n1 c1) := bg.cell 1
  have x2 : W.cell? ⟨w1.heap.size, 2, none⟩ = some (.slice A2 n2 c2) := bg.cell 2
  clear bg
  go_wp2_with fail
  refine (implPumpedStates _ a p q n _ HAU.out).mono ?_
  rintro e w2 ⟨vl, rfl, hol, hb2⟩
  have hsl := (hol.sl cI_len).all (Nat.le_refl _)
  obtain ⟨A3, c3, rfl, hl3, hm3, -⟩ := hol.sl cI_len
  obtain ⟨k, hk⟩ : ∃ k, k = (pumpedL a p q n).length := ⟨_, rfl⟩
  rw [← hk] at hsl hl3 ⊢
  have HK := Lib.hid hk
  have HSL := Lib.hid hsl
  have HAU2 := Lib.hid (HAU.out.keep hb2)
  have HB2 := Lib.hid (below_trans HB.out hb2)
  replace x0 := kcell hb2 x0
  replace x1 := kcell hb2 x1
  replace x2 := kcell hb2 x2
  have l0 := World.block_lt_of_cell? _ _ x0
  clear hol hsl hb2 hk HAU HB hm3 hl3
  go_wp2_with fail
  refine F_start 19 (fun w' => w'.cell? ⟨w1.heap.size, 0, none⟩ = some (.int .i64 a.start) ∧ w'.cell? ⟨w1.heap.size, 1, none⟩ = some (.slice A1 n1 c1) ∧ w'.cell? ⟨w1.heap.size, 2, none⟩ = some (.slice A2 n2 c2)) (by kernel_rfl) (by exact ⟨x0, x1, x2⟩) (fun hS inv => ?_)
  refine F_take (i := 0) (v := ?_) rfl (by kernel_rfl) (by kernel_rfl) (by kernel_rfl) (fun _ _ _ h => h) inv (Or.inl ⟨by rfl, ?_⟩) (by assumption) (fun invn => ?_)
  rotate_left
  · (intro w hSw; (try dsimp only at hSw); go_simp; try with_reducible rfl)
  try simp only [List.getElem_toArray, List.getElem_cons_zero, List.getElem_cons_succ, Act.put, List.setIfInBounds_toArray, List.set_cons_zero, List.set_cons_succ]
  clear inv
  have inv := invn
  clear invn
  refine F_take (i := 1) (v := ?_) rfl (by kernel_rfl) (by kernel_rfl) (by kernel_rfl) (fun _ _ _ h => h) inv (Or.inl ⟨by rfl, ?_⟩) (by assumption) (fun invn => ?_)
  rotate_left
  · (intro w hSw; (try dsimp only at hSw); go_simp; try with_reducible rfl)
  try simp only [List.getElem_toArray, List.getElem_cons_zero, List.getElem_cons_succ, Act.put, List.setIfInBounds_toArray, List.set_cons_zero, List.set_cons_succ]
  clear inv
  have inv := invn
  clear invn
  refine F_take (i := 2) (v := ?_) rfl (by kernel_rfl) (by kernel_rfl) (by kernel_rfl) (fun _ _ _ h => h) inv (Or.inl ⟨by rfl, ?_⟩) (by assumption) (fun invn => ?_)
  rotate_left
  · (intro w hSw; (try dsimp only at hSw); go_simp; try with_reducible rfl)
  try simp only [List.getElem_toArray, List.getElem_cons_zero, List.getElem_cons_succ, Act.put, List.setIfInBounds_toArray, List.set_cons_zero, List.set_cons_succ]
  clear inv
  have inv := invn
  clear invn
  refine F_take (i := 3) (v := ?_) rfl (by kernel_rfl) (by kernel_rfl) (by kernel_rfl) (fun _ _ _ h => h) inv (Or.inl ⟨by rfl, ?_⟩) (by assumption) (fun invn => ?_)
  rotate_left
  · (intro w hSw; (try dsimp only at hSw); go_simp; try with_reducible rfl)
  try simp only [List.getElem_toArray, List.getElem_cons_zero, List.getElem_cons_succ, Act.put, List.setIfInBounds_toArray, List.set_cons_zero, List.set_cons_succ]
  clear inv
  have inv := invn
  clear invn
  refine F_take (i := 4) (v := ?_) rfl (by kernel_rfl) (by kernel_rfl) (by kernel_rfl) (fun _ _ _ h => h) inv (Or.inl ⟨by rfl, ?_⟩) (by assumption) (fun invn => ?_)
  rotate_left
  · (intro w hSw; (try dsimp only at hSw); go_simp; try with_reducible rfl)
  try simp only [List.getElem_toArray, List.getElem_cons_zero, List.getElem_cons_succ, Act.put, List.setIfInBounds_toArray, List.set_cons_zero, List.set_cons_succ]
  clear inv
  have inv := invn
  clear invn
  have hd := (Below.refl w2.heap.size w2).drew
  have HAUd := Lib.hid (HAU2.out.keep hd)
  have HBd := Lib.hid (below_trans HB2.out hd)
  have HSLd := Lib.hid (SlE.keep HSL.out hd)
  clear x0 x1 x2 hd HAU2 HB2 HSL
  refine F_one (i := 5) (by kernel_rfl) rfl rfl (by omega) inv (fun K hK => ?_)
  try simp only [List.getElem_toArray, List.getElem_cons_zero, List.getElem_cons_succ]
  go_simp
  refine (specPumpedStates _ a p q n _ HAUd.out).mono ?_
  rintro e w3 ⟨v3, rfl, ho3, hb3⟩
  refine hK.out _ _ (⟨kcell hb3 hS.1, kcell hb3 hS.2.1, kcell hb3 hS.2.2⟩) (fun hSn invn => ?_)
  try simp only [List.getElem_toArray, List.getElem_cons_zero, List.getElem_cons_succ, Act.put, List.setIfInBounds_toArray, List.set_cons_zero, List.set_cons_succ]
  clear hK K inv hS
  have inv := invn
  have hS := hSn
  clear invn hSn
  have HO3 := Lib.hid ((ho3.sl cI_len).all (Nat.le_refl _))
  have HAU3 := Lib.hid (HAUd.out.keep hb3)
  have HB3 := Lib.hid (below_trans HBd.out hb3)
  have HSL3 := Lib.hid (SlE.keep HSLd.out hb3)
  clear ho3 hb3 HAUd HBd HSLd
  refine F_one (i := 6) (by kernel_rfl) rfl rfl (by omega) inv (fun K hK => ?_)
  try simp only [List.getElem_toArray, List.getElem_cons_zero, List.getElem_cons_succ]
  go_simp
  refine (sameInts_same _ _ (pumpedL a p q n) _ HSL3.out HO3.out).mono ?_
  rintro e w4 ⟨rfl, hb4⟩
  refine hK.out _ _ (⟨kcell hb4 hS.1, kcell hb4 hS.2.1, kcell hb4 hS.2.2⟩) (fun hSn invn => ?_)
  try simp only [List.getElem_toArray, List.getElem_cons_zero, List.getElem_cons_succ, Act.put, List.setIfInBounds_toArray, List.set_cons_zero, List.set_cons_succ]
  clear hK K inv hS
  have inv := invn
  have hS := hSn
  clear invn hSn
  have HAU4 := Lib.hid (HAU3.out.keep hb4)
  have HB4 := Lib.hid (below_trans HB3.out hb4)
  have HSL4 := Lib.hid (SlE.keep HSL3.out hb4)
  clear hb4 HAU3 HB3 HSL3 HO3
  refine F_take (i := 7) (v := ?_) rfl (by kernel_rfl) (by kernel_rfl) (by kernel_rfl) (fun _ _ _ h => h) inv (Or.inl ⟨by rfl, ?_⟩) (by assumption) (fun invn => ?_)
  rotate_left
  · (intro w hSw; (try dsimp only at hSw); go_simp; try with_reducible rfl)
  try simp only [List.getElem_toArray, List.getElem_cons_zero, List.getElem_cons_succ, Act.put, List.setIfInBounds_toArray, List.set_cons_zero, List.set_cons_succ]
  clear inv
  have inv := invn
  clear invn
  refine F_take (i := 8) (v := ?_) rfl (by kernel_rfl) (by kernel_rfl) (by kernel_rfl) (fun _ _ _ h => h) inv (Or.inl ⟨by rfl, ?_⟩) (by assumption) (fun invn => ?_)
  rotate_left
  · (intro w hSw; (try dsimp only at hSw); go_simp; try with_reducible rfl)
  try simp only [List.getElem_toArray, List.getElem_cons_zero, List.getElem_cons_succ, Act.put, List.setIfInBounds_toArray, List.set_cons_zero, List.set_cons_succ]
  clear inv
  have inv := invn
  clear invn
  refine F_take (i := 9) (v := ?_) rfl (by kernel_rfl) (by kernel_rfl) (by kernel_rfl) (fun _ _ _ h => h) inv (Or.inl ⟨by rfl, ?_⟩) (by assumption) (fun invn => ?_)
  rotate_left
  · (intro w hSw; (try dsimp only at hSw); go_simp; try with_reducible rfl)
  try simp only [List.getElem_toArray, List.getElem_cons_zero, List.getElem_cons_succ, Act.put, List.setIfInBounds_toArray, List.set_cons_zero, List.set_cons_succ]
  clear inv
  have inv := invn
  clear invn
  refine F_take (i := 10) (v := ?_) rfl (by kernel_rfl) (by kernel_rfl) (by kernel_rfl) (fun _ _ _ h => h) inv (Or.inl ⟨by rfl, ?_⟩) (by assumption) (fun invn => ?_)
  rotate_left
  · (intro w hSw; (try dsimp only at hSw); go_simp; try with_reducible rfl)
  try simp only [List.getElem_toArray, List.getElem_cons_zero, List.getElem_cons_succ, Act.put, List.setIfInBounds_toArray, List.set_cons_zero, List.set_cons_succ]
  clear inv
  have inv := invn
  clear invn
  refine F_take (i := 11) (v := ?_) rfl (by kernel_rfl) (by kernel_rfl) (by kernel_rfl) (fun _ _ _ h => h) inv (Or.inl ⟨by rfl, ?_⟩) (by assumption) (fun invn => ?_)
  rotate_left
  · (intro w hSw; (try dsimp only at hSw); go_simp; try with_reducible rfl)
  try simp only [List.getElem_toArray, List.getElem_cons_zero, List.getElem_cons_succ, Act.put, List.setIfInBounds_toArray, List.set_cons_zero, List.set_cons_succ]
  clear inv
  have inv := invn
  clear invn
  refine F_take (i := 13) (v := ?_) rfl (by kernel_rfl) (by kernel_rfl) (by kernel_rfl) (fun _ _ _ h => h) inv (Or.inl ⟨by rfl, ?_⟩) (by assumption) (fun invn => ?_)
  rotate_left
  · (intro w hSw; (try dsimp only at hSw); go_simp; try with_reducible rfl)
  try simp only [List.getElem_toArray, List.getElem_cons_zero, List.getElem_cons_succ, Act.put, List.setIfInBounds_toArray, List.set_cons_zero, List.set_cons_succ]
  clear inv
  have inv := invn
  clear invn
  refine F_take (i := 14) (v := ?_) rfl (by kernel_rfl) (by kernel_rfl) (by kernel_rfl) (fun _ _ _ h => h) inv (Or.inl ⟨by rfl, ?_⟩) (by assumption) (fun invn => ?_)
  rotate_left
  · (intro w hSw; (try dsimp only at hSw); go_simp; try with_reducible rfl)
  try simp only [List.getElem_toArray, List.getElem_cons_zero, List.getElem_cons_succ, Act.put, List.setIfInBounds_toArray, List.set_cons_zero, List.set_cons_succ]
  clear inv
  have inv := invn
  clear invn
  refine F_take (i := 15) (v := ?_) rfl (by kernel_rfl) (by kernel_rfl) (by kernel_rfl) (fun _ _ _ h => h) inv (Or.inl ⟨by rfl, ?_⟩) (by assumption) (fun invn => ?_)
  rotate_left
  · (intro w hSw; (try dsimp only at hSw); go_simp; try with_reducible rfl)
  try simp only [List.getElem_toArray, List.getElem_cons_zero, List.getElem_cons_succ, Act.put, List.setIfInBounds_toArray, List.set_cons_zero, List.set_cons_succ]
  clear inv
  have inv := invn
  clear invn
  refine F_oneG (i := 12) (by kernel_rfl) rfl (by rfl) (by omega) inv (fun K hK => ?_)
  try simp only [List.getElem_toArray, List.getElem_cons_zero, List.getElem_cons_succ]
  go_simp
  refine (implLoopImages _ a p q _ HAU4.out).mono ?_
  rintro e w5 ⟨v5, rfl, ho5, hb5⟩
  refine hK.out _ _ (⟨kcell hb5 hS.1, kcell hb5 hS.2.1, kcell hb5 hS.2.2⟩) (fun hSn invn => ?_)
  try simp only [List.getElem_toArray, List.getElem_cons_zero, List.getElem_cons_succ, Act.put, List.setIfInBounds_toArray, List.set_cons_zero, List.set_cons_succ]
  clear hK K inv hS
  have inv := invn
  have hS := hSn
  clear invn hSn
  have HO5 := Lib.hid ((ho5.sl cI_len).all (Nat.le_refl _))
  have HAU5 := Lib.hid (HAU4.out.keep hb5)
  have HB5 := Lib.hid (below_trans HB4.out hb5)
  have HSL5 := Lib.hid (SlE.keep HSL4.out hb5)
  clear ho5 hb5 HAU4 HB4 HSL4
  refine F_oneG (i := 16) (by kernel_rfl) rfl (by rfl) (by omega) inv (fun K hK => ?_)
  try simp only [List.getElem_toArray, List.getElem_cons_zero, List.getElem_cons_succ]
  go_simp
  refine (specLoopImages _ a p q _ HAU5.out).mono ?_
  rintro e w6 ⟨v6, rfl, ho6, hb6⟩
  refine hK.out _ _ (⟨kcell hb6 hS.1, kcell hb6 hS.2.1, kcell hb6 hS.2.2⟩) (fun hSn invn => ?_)
  try simp only [List.getElem_toArray, List.getElem_cons_zero, List.getElem_cons_succ, Act.put, List.setIfInBounds_toArray, List.set_cons_zero, List.set_cons_succ]
  clear hK K inv hS
  have inv := invn
  have hS := hSn
  clear invn hSn
  have HO6 := Lib.hid ((ho6.sl cI_len).all (Nat.le_refl _))
  have HO5b := Lib.hid (SlE.keep HO5.out hb6)
  have HAU6 := Lib.hid (HAU5.out.keep hb6)
  have HB6 := Lib.hid (below_trans HB5.out hb6)
  have HSL6 := Lib.hid (SlE.keep HSL5.out hb6)
  clear ho6 hb6 HAU5 HB5 HSL5 HO5
  refine F_oneG (i := 17) (by kernel_rfl) rfl (by rfl) (by omega) inv (fun K hK => ?_)
  try simp only [List.getElem_toArray, List.getElem_cons_zero, List.getElem_cons_succ]
  go_simp
  refine (sameInts_same _ _ (loopL a p q) _ HO5b.out HO6.out).mono ?_
  rintro e w10 ⟨rfl, hb7⟩
  refine hK.out _ _ (⟨kcell hb7 hS.1, kcell hb7 hS.2.1, kcell hb7 hS.2.2⟩) (fun hSn invn => ?_)
  try simp only [List.getElem_toArray, List.getElem_cons_zero, List.getElem_cons_succ, Act.put, List.setIfInBounds_toArray, List.set_cons_zero, List.set_cons_succ]
  clear hK K inv hS
  have inv := invn
  have hS := hSn
  clear invn hSn
  have HAU3 := Lib.hid (HAU6.out.keep hb7)
  have HB3 := Lib.hid (below_trans HB6.out hb7)
  have HSL3 := Lib.hid (SlE.keep HSL6.out hb7)
  clear hb7 HAU6 HB6 HSL6 HO5b HO6
  refine F_take (i := 18) (v := ?_) rfl (by kernel_rfl) (by kernel_rfl) (by kernel_rfl) (fun _ _ _ h => h) inv (Or.inl ⟨by rfl, ?_⟩) (by assumption) (fun invn => ?_)
  rotate_left
  · (intro w hSw; (try dsimp only at hSw); go_simp; try with_reducible rfl)
  try simp only [List.getElem_toArray, List.getElem_cons_zero, List.getElem_cons_succ, Act.put, List.setIfInBounds_toArray, List.set_cons_zero, List.set_cons_succ]
  clear inv
  have inv := invn
  clear invn
  obtain ⟨x0, x1, x2⟩ := id hS
  refine F_last (i := 19) (by kernel_rfl) rfl rfl (by omega) (by kernel_rfl) (fun K hK => ?_)
  go_simp
  refine hK _ _ ?_
  clear hK K
  by_cases hn0 : n = 0
  · subst hn0
    rcases pumped_zero a p q with hp | hp
    · obtain rfl : k = 0 := by rw [HK.out, hp]; rfl
      clear hp HK
      go_wp2_with fail
      refine (specHasLoop _ a q _ HAU3.out).mono ?_
      rintro e w7 ⟨b, rfl, hb, hb7⟩
      cases b
      · clear hb
        go_wp2_with fail
        go_ret
        exact ⟨rfl, below_trans HB3.out hb7⟩
      · have HQ := Lib.hid (loop_self (hb.1 (by first | rfl | trivial)))
        have HAU7 := Lib.hid (AuV.keep HAU3.out hb7)
        have HB7 := Lib.hid (below_trans HB3.out hb7)
        replace x0 := kcell hb7 x0
        replace x1 := kcell hb7 x1
        replace x2 := kcell hb7 x2
        clear hb hb7
        go_wp2_with fail
        refine (implLoopImages _ a q q _ HAU7.out).mono ?_
        rintro e w8 ⟨vz, rfl, hoz, hb8⟩
        have HOZ := Lib.hid ((hoz.sl cI_len).all (Nat.le_refl _))
        clear hoz
        go_wp2_with fail
        refine (lawHas_any _ _ q _ HOZ.out).mono ?_
        rintro e w9 ⟨rfl, rfl⟩
        rw [hasB_yes HQ.out]
        go_wp2_with fail
        go_ret
        exact ⟨rfl, below_trans HB7.out hb8⟩
    · obtain rfl : k = 1 := by rw [HK.out, hp]; rfl
      rw [hp] at HSL3
      clear hp HK
      have hal := (Below.refl w10.heap.size w10).alloc (Nat.le_refl _) (.cells #[.int .i64 p] 3)
      have HSL4 := Lib.hid (SlE.keep HSL3.out hal)
      have HAU4 := Lib.hid (HAU3.out.keep hal)
      have HB4 := Lib.hid (below_trans HB3.out hal)
      have HPL := Lib.hid ((litD_sl w10 3 #[.int .i64 p] [p] 1 0 (Nat.zero_le _) (by decide) rfl rfl rfl).all (Nat.le_refl _))
      replace x0 := kcell hal x0
      replace x1 := kcell hal x1
      replace x2 := kcell hal x2
      clear hal HSL3 HAU3 HB3
      go_wp2_with fail
      refine (sameInts_same _ _ [p] _ HSL4.out HPL.out).mono ?_
      rintro e w11 ⟨rfl, hb11⟩
      have HAU5 := Lib.hid (HAU4.out.keep hb11)
      have HB5 := Lib.hid (below_trans HB4.out hb11)
      replace x0 := kcell hb11 x0
      replace x1 := kcell hb11 x1
      replace x2 := kcell hb11 x2
      clear hb11 HSL4 HAU4 HB4 HPL
      go_wp2_with fail
      refine (specHasLoop _ a q _ HAU5.out).mono ?_
      rintro e w7 ⟨b, rfl, hb, hb7⟩
      cases b
      · clear hb
        go_wp2_with fail
        go_ret
        exact ⟨rfl, below_trans HB5.out hb7⟩
      · have HQ := Lib.hid (loop_self (hb.1 (by first | rfl | trivial)))
        have HAU7 := Lib.hid (AuV.keep HAU5.out hb7)
        have HB7 := Lib.hid (below_trans HB5.out hb7)
        replace x0 := kcell hb7 x0
        replace x1 := kcell hb7 x1
        replace x2 := kcell hb7 x2
        clear hb hb7
        go_wp2_with fail
        refine (implLoopImages _ a q q _ HAU7.out).mono ?_
        rintro e w8 ⟨vz, rfl, hoz, hb8⟩
        have HOZ := Lib.hid ((hoz.sl cI_len).all (Nat.le_refl _))
        clear hoz
        go_wp2_with fail
        refine (lawHas_any _ _ q _ HOZ.out).mono ?_
        rintro e w9 ⟨rfl, rfl⟩
        rw [hasB_yes HQ.out]
        go_wp2_with fail
        go_ret
        exact ⟨rfl, below_trans HB7.out hb8⟩
  · by_cases hn1 : n = 1
    · subst hn1
      have HP1 := Lib.hid (pumped_one a p q)
      go_wp2_with fail
      refine (implLoopImages _ a p q _ HAU3.out).mono ?_
      rintro e w5 ⟨vm, rfl, hom, hb5⟩
      have HOM := Lib.hid ((hom.sl cI_len).all (Nat.le_refl _))
      have HSL5 := Lib.hid (SlE.keep HSL3.out hb5)
      have HAU5 := Lib.hid (HAU3.out.keep hb5)
      have HB5 := Lib.hid (below_trans HB3.out hb5)
      rw [HP1.out] at HSL5
      replace x0 := kcell hb5 x0
      replace x1 := kcell hb5 x1
      replace x2 := kcell hb5 x2
      clear hom hb5 HSL3 HAU3 HB3 HP1
      go_wp2_with fail
      refine (sameInts_same _ _ (loopL a p q) _ HSL5.out HOM.out).mono ?_
      rintro e w6 ⟨rfl, hb6⟩
      have HAU6 := Lib.hid (HAU5.out.keep hb6)
      have HB6 := Lib.hid (below_trans HB5.out hb6)
      replace x0 := kcell hb6 x0
      replace x1 := kcell hb6 x1
      replace x2 := kcell hb6 x2
      clear hb6 HSL5 HAU5 HB5 HOM
      go_wp2_with fail
      refine (specHasLoop _ a q _ HAU6.out).mono ?_
      rintro e w7 ⟨b, rfl, hb, hb7⟩
      cases b
      · clear hb
        go_wp2_with fail
        go_ret
        exact ⟨rfl, below_trans HB6.out hb7⟩
      · have HQ := Lib.hid (loop_self (hb.1 (by first | rfl | trivial)))
        have HAU7 := Lib.hid (AuV.keep HAU6.out hb7)
        have HB7 := Lib.hid (below_trans HB6.out hb7)
        replace x0 := kcell hb7 x0
        replace x1 := kcell hb7 x1
        replace x2 := kcell hb7 x2
        clear hb hb7
        go_wp2_with fail
        refine (implLoopImages _ a q q _ HAU7.out).mono ?_
        rintro e w8 ⟨vz, rfl, hoz, hb8⟩
        have HOZ := Lib.hid ((hoz.sl cI_len).all (Nat.le_refl _))
        clear hoz
        go_wp2_with fail
        refine (lawHas_any _ _ q _ HOZ.out).mono ?_
        rintro e w9 ⟨rfl, rfl⟩
        rw [hasB_yes HQ.out]
        go_wp2_with fail
        go_ret
        exact ⟨rfl, below_trans HB7.out hb8⟩
    · have hd0 : (n == 0) = false := by simpa using hn0
      have hd1 : (n == 1) = false := by simpa using hn1
      go_wp2_with fail
      refine (specHasLoop _ a q _ HAU3.out).mono ?_
      rintro e w7 ⟨b, rfl, hb, hb7⟩
      cases b
      · clear hb
        go_wp2_with fail
        go_ret
        exact ⟨rfl, below_trans HB3.out hb7⟩
      · have HQ := Lib.hid (loop_self (hb.1 (by first | rfl | trivial)))
        have HAU7 := Lib.hid (AuV.keep HAU3.out hb7)
        have HB7 := Lib.hid (below_trans HB3.out hb7)
        replace x0 := kcell hb7 x0
        replace x1 := kcell hb7 x1
        replace x2 := kcell hb7 x2
        clear hb hb7
        go_wp2_with fail
        refine (implLoopImages _ a q q _ HAU7.out).mono ?_
        rintro e w8 ⟨vz, rfl, hoz, hb8⟩
        have HOZ := Lib.hid ((hoz.sl cI_len).all (Nat.le_refl _))
        clear hoz
        go_wp2_with fail
        refine (lawHas_any _ _ q _ HOZ.out).mono ?_
        rintro e w9 ⟨rfl, rfl⟩
        rw [hasB_yes HQ.out]
        go_wp2_with fail
        go_ret
        exact ⟨rfl, below_trans HB7.out hb8⟩
end Go.Proofs.Ytallglnmeeahiaa.fnPumping

namespace Go.Proofs.Ytallglnmeeahiaa.fnPumping
set_option linter.unusedVariables false
set_option linter.unusedSimpArgs false
open Go.ChangeShapes Go.WideShapes Go.ChangeAt Go.RowKit
/-! ### The row -/
theorem own : ownKnob Try.prog.godebug = none := by kernel_rfl
theorem laidOut : laidOutB Try.prog = true := by kernel_rfl
set_option maxRecDepth 100000 in
theorem lifted (os : Os) (started : os.Started) (H : Type) (enc : TypeId × Value → H) :
    ReturnsInHanded {} Try.checked os 3 .any (Rows.fnPumpingSpec.pre6 enc Try.prog Try.f3 Rows.fnPumpingRow.domain false) (Rows.fnPumpingSpec.post enc Try.prog Try.f3 false true false false) := by
  refine returnsInHanded_of_change (C := Try.checked) own started (by kernel_rfl) Try.func3
    (ChangeSpec.witness6 (enc := enc) (C := Try.checked) false ⟨#[], #[.slice none 0 0], []⟩ 8 (by kernel_rfl) (by kernel_rfl) (by kernel_rfl) (by kernel_rfl)) ?_
  intro W base args ds gs before hval0 hW hcnd _
  have hval : ∀ (j : Nat) t v, Try.f3.params[j]? = some t → args[j]? = some v → Value.okWide Try.prog W .any base t v := hval0
  have hW' := hW
  obtain ⟨p, q, hA0, hV, rfl, hfz, hnd⟩ := hW
  have hA : DataW.TrodAll enc Try.prog W 0 (fun _ => true) true Try.f3.params.toList args.toList ds p := hA0
  rw [Try.params3] at hA hval
  obtain ⟨v0, vs0, d0, ds0, p0, q0, hargs, rfl, rfl, h0, r0⟩ := trodAll_cons hA
  obtain ⟨rfl, rfl, rfl⟩ := trodAll_nil r0
  obtain rfl : args = #[v0] := by cases args; simp_all
  obtain ⟨rfl, rfl⟩ := trodVars_none hV
  obtain ⟨a0, w0⟩ := openBytes (hval 0 22 v0 rfl rfl) h0
  refine (walk W v0 a0 w0).mono fun e W' ⟨he, hb⟩ => ?_
  subst he
  exact ⟨_, rfl, law_post laidOut (by kernel_rfl) rfl Try.underlying4 rfl rfl hW' hb⟩
theorem unf : Try.pinned.checked.prog.unfollowed 3 = true := by kernel_rfl
theorem inpl : Try.pinned.checked.prog.inPlace 3 = [] := by kernel_rfl
theorem vnam : Try.pinned.checked.prog.varsNamed 3 = [] := by kernel_rfl
theorem rec_ : Try.pinned.checked.prog.recurses 3 = true := by rw [Program.recurses, unf, Bool.true_or]
theorem over : Rows.fnPumpingRow.holds Try.pinned (OpenSpec.ofChange Rows.fnPumpingSpec) :=
  OpenClaim.holds_of_wide 3 Try.f3 rfl rfl rfl rfl rfl rfl rfl ⟨rfl, rfl, rfl, rfl, rfl⟩ rfl rfl rfl rfl rfl (by kernel_rfl) Try.func3 (by unfold joinedFacts; rw [seat_mayEnter, seat_lifts, seat_laidOut, seat_mapsRowed, unf, rec_, inpl, vnam]; kernel_rfl)
    (of_decide_eq_true (by kernel_rfl)) (by unfold Func.isWrapper; first | (rw [if_pos (by decide +kernel)]; kernel_rfl) | (rw [if_neg (by decide +kernel)]; exact ⟨rfl, rfl⟩))
    (fun os started H enc _ => lifted os started H enc)
theorem proved : Rows.FnPumpingSaid := over
end Go.Proofs.Ytallglnmeeahiaa.fnPumping

