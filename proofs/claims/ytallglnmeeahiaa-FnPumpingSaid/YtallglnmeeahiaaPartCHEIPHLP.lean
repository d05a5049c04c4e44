/- Parts of the proof, joined into one text: PumpM, PumpI, PumpS, Reach, Found, Onward, StateReaches, HasLoop, PumpL, Rec, Seat. -/
import Derived.Test.YtallglnmeeahiaaPartJOHKHNAH
import Derived.Test.YtallglnmeeahiaaPartGEEOALPK
import Derived.Test.YtallglnmeeahiaaPartOFPIKNKI
import Derived.Test.YtallglnmeeahiaaPartJJKAEBEH
import Derived.Test.YtallglnmeeahiaaPartKHLNNBFN
import Derived.Deep.LoopGhost
import Derived.JoinedOf
import Derived.Test.YtallglnmeeahiaaRows
/- PumpedStates, plainly: rounds of images, as lists and as sets of bits. -/
namespace Go.Proofs.Ytallglnmeeahiaa
set_option linter.unusedVariables false
set_option linter.unusedSimpArgs false
open Go.ChangeShapes Go.WideShapes Go.ChangeAt Go.RowKit
def imgAll (a : Au) (q : Int) (l : List Int) : List Int := l.flatMap fun s => imgA a s q
def pumpL (a : Au) (p q : Int) : Nat → List Int
  | 0 => [p]
  | k + 1 => ascL (imgAll a q (pumpL a p q k))
theorem imgAll_snoc {a : Au} {q : Int} {l : List Int} {i : Nat} {s : Int} (h : l[i]? = some s) : imgAll a q (l.take (i + 1)) = imgAll a q (l.take i) ++ imgA a s q := by
  rw [imgAll, take_snoc h, List.flatMap_append]; simp [imgAll]
theorem imgAll_mem {a : Au} (h : auOk a = true) {q x : Int} {l : List Int} (hx : x ∈ imgAll a q l) : -1 ≤ x ∧ x < (a.accept.length : Int) := by
  obtain ⟨s, _, h2⟩ := List.mem_flatMap.1 hx
  exact imgA_mem h h2
theorem imgAll_len {a : Au} (h : auOk a = true) (q : Int) (l : List Int) : (imgAll a q l).length ≤ l.length * 13 := by
  induction l with
  | nil => simp [imgAll]
  | cons s l ih =>
    have h2 := imgA_len h s q
    simp only [imgAll, List.flatMap_cons, List.length_append, List.length_cons] at ih ⊢
    omega
theorem pumpL_mem {a : Au} (h : auOk a = true) {p q : Int} (hp : -1 ≤ p ∧ p < (a.accept.length : Int)) : ∀ (k : Nat) (x : Int), x ∈ pumpL a p q k → -1 ≤ x ∧ x < (a.accept.length : Int)
  | 0, x, hx => by simp only [pumpL, List.mem_singleton] at hx; subst hx; exact hp
  | k + 1, x, hx => by rw [pumpL, (ascL_spec _).2] at hx; exact imgAll_mem h hx
theorem pumpL_asc (a : Au) (p q : Int) : ∀ k, (pumpL a p q k).Pairwise (· < ·)
  | 0 => by simp [pumpL]
  | k + 1 => (ascL_spec _).1
theorem pumpL_len {a : Au} (h : auOk a = true) {p q : Int} (hp : -1 ≤ p ∧ p < (a.accept.length : Int)) (k : Nat) : (pumpL a p q k).length ≤ 13 := by
  have h1 := asc_len (pumpL_asc a p q k) (pumpL_mem h hp k)
  have h2 := (auOk_iff.1 h).1.2
  omega
def pumpOk (a : Au) (p q n : Int) : Bool := stB a p q && wi n 0 12
def pumpedL (a : Au) (p q n : Int) : List Int := if pumpOk a p q n = true then pumpL a p q n.toNat else []
theorem pumpedL_len (a : Au) (p q n : Int) : (pumpedL a p q n).length ≤ 13 := by
  unfold pumpedL
  split
  · rename_i h
    rw [pumpOk, Bool.and_eq_true] at h
    have h2 := stB_iff.1 h.1
    exact pumpL_len h2.2.2 (by omega) _
  · simp

/-! ### As sets -/
structure BitsL (m : Nat) (l : List Int) : Prop where
  lt : m < 2 ^ 13
  iff : ∀ t : Nat, m.testBit t = true ↔ ((t : Int) - 1) ∈ l
def insN (m : Nat) (x : Int) : Nat := ins m (x + 1).toNat
def maskOf (l : List Int) : Nat := l.foldl insN 0
theorem maskOf_lt : ∀ (l : List Int) (m : Nat), m < 2 ^ 13 → (∀ x ∈ l, -1 ≤ x ∧ x < 12) → l.foldl insN m < 2 ^ 13
  | [], m, hm, _ => hm
  | x :: l, m, hm, h => maskOf_lt l _ (ins_lt hm (by have := h x (by simp); omega)) (fun y hy => h y (List.mem_cons_of_mem _ hy))
theorem maskOf_iff : ∀ (l : List Int) (m : Nat), (∀ x ∈ l, -1 ≤ x) → ∀ t : Nat, (l.foldl insN m).testBit t = true ↔ m.testBit t = true ∨ ((t : Int) - 1) ∈ l
  | [], m, _, t => by simp
  | x :: l, m, h, t => by
    have hx := h x (by simp)
    rw [List.foldl_cons, maskOf_iff l _ (fun y hy => h y (List.mem_cons_of_mem _ hy)), insN, ins_test, Bool.or_eq_true, decide_eq_true_eq, List.mem_cons]
    constructor
    · rintro ((h1 | h1) | h1)
      · exact .inl h1
      · exact .inr (.inl (by omega))
      · exact .inr (.inr h1)
    · rintro (h1 | h1 | h1)
      · exact .inl (.inl h1)
      · exact .inl (.inr (by omega))
      · exact .inr h1
theorem BitsL.of {l : List Int} (h : ∀ x ∈ l, -1 ≤ x ∧ x < 12) : BitsL (maskOf l) l :=
  ⟨maskOf_lt l 0 (by decide) h, fun t => by rw [maskOf, maskOf_iff l 0 (fun x hx => (h x hx).1)]; simp⟩
def maskF (a : Au) (q : Int) (i : Nat) : Nat := maskOf (imgA a ((i : Int) - 1) q)
theorem maskF_bits {a : Au} (h : auOk a = true) (q : Int) (i : Nat) : BitsL (maskF a q i) (imgA a ((i : Int) - 1) q) :=
  BitsL.of fun x hx => by have h1 := imgA_mem h hx; have h2 := (auOk_iff.1 h).1.2; omega
def orTo (F : Nat → Nat) (s i : Nat) : Nat := (mem i s).foldl (fun m t => m ||| F t) 0
theorem orTo_no {F : Nat → Nat} {s i : Nat} (h : s.testBit i = false) : orTo F s (i + 1) = orTo F s i := by rw [orTo, mem_no h]; rfl
theorem orTo_yes {F : Nat → Nat} {s i : Nat} (h : s.testBit i = true) : orTo F s (i + 1) = orTo F s i ||| F i := by rw [orTo, mem_yes h, List.foldl_append]; rfl
theorem orTo_lt {F : Nat → Nat} {n : Nat} (hF : ∀ i, F i < 2 ^ n) (s i : Nat) : orTo F s i < 2 ^ n := foldl_inv (P := fun m => m < 2 ^ n) (fun m t hm => Nat.or_lt_two_pow hm (hF t)) _ _ (Nat.two_pow_pos _)
theorem orTo_iff (F : Nat → Nat) (s : Nat) : ∀ (i t : Nat), (orTo F s i).testBit t = true ↔ ∃ j, j < i ∧ s.testBit j = true ∧ (F j).testBit t = true
  | 0, t => by simp [orTo, mem_zero]
  | i + 1, t => by
    cases hs : s.testBit i with
    | false =>
      rw [orTo_no hs, orTo_iff F s i t]
      constructor
      · rintro ⟨j, h1, h2, h3⟩; exact ⟨j, by omega, h2, h3⟩
      · rintro ⟨j, h1, h2, h3⟩
        rcases Nat.lt_or_ge j i with h | h
        · exact ⟨j, h, h2, h3⟩
        · obtain rfl : j = i := by omega
          rw [hs] at h2; cases h2
    | true =>
      rw [orTo_yes hs, Nat.testBit_or, Bool.or_eq_true, orTo_iff F s i t]
      constructor
      · rintro (⟨j, h1, h2, h3⟩ | h)
        · exact ⟨j, by omega, h2, h3⟩
        · exact ⟨i, by omega, hs, h⟩
      · rintro ⟨j, h1, h2, h3⟩
        rcases Nat.lt_or_ge j i with h | h
        · exact .inl ⟨j, h, h2, h3⟩
        · obtain rfl : j = i := by omega
          exact .inr h3
theorem BitsL.step {a : Au} (h : auOk a = true) {q : Int} {s : Nat} {l : List Int} (hs : BitsL s l) (hl : ∀ x ∈ l, -1 ≤ x ∧ x < (a.accept.length : Int)) : BitsL (orTo (maskF a q) s (a.accept.length + 1)) (ascL (imgAll a q l)) :=
  ⟨orTo_lt (fun i => (maskF_bits h q i).lt) _ _, fun t => by
    rw [orTo_iff, (ascL_spec _).2, imgAll, List.mem_flatMap]
    constructor
    · rintro ⟨j, h1, h2, h3⟩
      exact ⟨_, (hs.iff j).1 h2, ((maskF_bits h q j).iff t).1 h3⟩
    · rintro ⟨x, h1, h2⟩
      have hx := hl x h1
      have e : (((x + 1).toNat : Nat) : Int) - 1 = x := by omega
      refine ⟨(x + 1).toNat, by omega, (hs.iff _).2 (by rw [e]; exact h1), ((maskF_bits h q _).iff t).2 (by rw [e]; exact h2)⟩⟩
def setK (a : Au) (p q : Int) : Nat → Nat
  | 0 => bit (p + 1).toNat
  | k + 1 => orTo (maskF a q) (setK a p q k) (a.accept.length + 1)
theorem setK_bits {a : Au} (h : auOk a = true) {p q : Int} (hp : -1 ≤ p ∧ p < (a.accept.length : Int)) : ∀ k, BitsL (setK a p q k) (pumpL a p q k)
  | 0 => ⟨bit_lt (by have := (auOk_iff.1 h).1.2; omega), fun t => by simp only [setK, pumpL, bit_test, decide_eq_true_eq, List.mem_singleton]; omega⟩
  | k + 1 => (setK_bits h hp k).step h (pumpL_mem h hp k)
theorem BitsL.asc {m : Nat} {l : List Int} (h : BitsL m l) (hl : l.Pairwise (· < ·)) (hb : ∀ x ∈ l, -1 ≤ x) : (memI 30 m).map (· - 1) = l := by
  refine asc_uniq ?_ hl fun x => ?_
  · rw [List.pairwise_map]
    exact (memI_asc 30 m).imp fun h => by omega
  · rw [List.mem_map]
    constructor
    · rintro ⟨t, ht, rfl⟩
      obtain ⟨n, rfl, -, h2⟩ := mem_memI.1 ht
      exact (h.iff n).1 h2
    · intro hx
      have h1 := hb _ hx
      refine ⟨x + 1, mem_memI.2 ⟨(x + 1).toNat, by omega, ?_, ?_⟩, by omega⟩
      · rcases Nat.lt_or_ge (x + 1).toNat 30 with h2 | h2
        · exact h2
        · have h3 := (h.iff (x + 1).toNat).2 (by rw [show ((x + 1).toNat : Int) - 1 = x by omega]; exact hx)
          have h4 := Nat.testBit_lt_two_pow (i := (x + 1).toNat) (Nat.lt_of_lt_of_le h.lt (Nat.pow_le_pow_right (by omega) (by omega)))
          rw [h3] at h4; cases h4
      · exact (h.iff (x + 1).toNat).2 (by rw [show ((x + 1).toNat : Int) - 1 = x by omega]; exact hx)
theorem setK_asc {a : Au} (h : auOk a = true) {p q : Int} (hp : -1 ≤ p ∧ p < (a.accept.length : Int)) (k : Nat) : (memI 30 (setK a p q k)).map (· - 1) = pumpL a p q k :=
  (setK_bits h hp k).asc (pumpL_asc a p q k) fun x hx => (pumpL_mem h hp k x hx).1
end Go.Proofs.Ytallglnmeeahiaa

/- The program's PumpedStates. -/
namespace Go.Proofs.Ytallglnmeeahiaa
set_option linter.unusedVariables false
set_option linter.unusedSimpArgs false
open Go.ChangeShapes Go.WideShapes Go.ChangeAt Go.RowKit
attribute [local go_sem] ext_cell ext_frozen ext_lt ext_lt1 ext_lt2 ext_lt3 ltn2 ltn3 ltn13 lts1 lts2 lts3

set_option maxHeartbeats 2000000 in
set_option maxRecDepth 100000 in
theorem implPumpedStates (v : Value) (a : Au) (p q n : Int) (w : World) (hv : AuV 0 w.heap.size w v a) :
    Calls Try.prog 8 #[v, .int .i64 p, .int .i64 q, .int .i64 n] w fun e w' => ∃ v', e = .returned v' ∧ Own w.heap.size w'.heap.size w' 3 cI 1 v' (pumpedL a p q n) ∧ Below w.heap.size w w' := by
  have hv0 := hv
  obtain ⟨A1, n1, c1, A2, n2, c2, rfl⟩ := hv.shape
  clear hv
  have hb0 : Below w.heap.size w (w.alloc (.cells #[.int .i64 a.start, .slice A1 n1 c1, .slice A2 n2 c2] 27)) := (Below.refl _ _).alloc (Nat.le_refl _) _
  have hb1 : Below w.heap.size w ((w.alloc (.cells #[.int .i64 a.start, .slice A1 n1 c1, .slice A2 n2 c2] 27)).alloc (.cells #[.int .i64 p, .int .i64 q] 3)) := hb0.alloc (by simp) _
  have hst : SlE ((w.alloc (.cells #[.int .i64 a.start, .slice A1 n1 c1, .slice A2 n2 c2] 27)).alloc (.cells #[.int .i64 p, .int .i64 q] 3)) cI 1 (.slice (some ⟨w.heap.size + 1, 0, none⟩) 2 2) [p, q] := by
    have h := Own.of_row (xs := [p, q]) (E := cI) (World.ownsRow_lit (base := 0) (e := 3) (size := 1) (w.alloc (.cells #[.int .i64 a.start, .slice A1 n1 c1, .slice A2 n2 c2] 27)) #[.int .i64 p, .int .i64 q] 2 (Nat.zero_le _) (by decide) rfl) rfl rfl
    have h2 := h.sl cI_len
    simpa [SlE] using h2
  have hok := statesOk_any _ _ a [p, q] _ (hv0.keep hb1) hst
  simp only [List.all_cons, List.all_nil, Bool.and_true] at hok
  obtain ⟨R, hR⟩ : ∃ R, R = pumpedL a p q n := ⟨_, rfl⟩
  rw [← hR]
  have HR := Lib.hid hR
  have HOK := Lib.hid hok
  have HV := Lib.hid hv0
  have HWI := Lib.hid (fun W => within_any n 0 12 W)
  clear hok hst hR hv0
  by_cases g : stB a p q = true
  · have hg := stB_iff.1 g
    have HG := Lib.hid g
    cases hw : wi n 0 12 with
    | false =>
      have HF := Lib.hid (HR.out.trans (show pumpedL a p q n = [] from if_neg (by rw [pumpOk, hw]; simp)))
      rw [hw] at HWI
      clear g hg HR hw
      go_enter Try.func8, Try.ntmps8
      go_wp2_with fail
      refine HOK.out.mono ?_
      rintro e w1 ⟨rfl, hb2⟩
      rw [show (wi p 0 ((a.accept.length : Int) - 1) && wi q 0 ((a.accept.length : Int) - 1) && auOk a) = true from HG.out]
      have hb3 := below_trans hb1 hb2
      clear hb2
      go_wp2_with fail
      refine (HWI.out _).mono ?_
      rintro e w9 ⟨rfl, hw9⟩
      rw [hw9]
      clear hw9
      go_wp2_with fail
      go_ret
      rw [HF.out]
      exact ⟨_, rfl, Own.nil _ _ _ _ _ _, hb3⟩
    | true =>
      have hwi := wi_iff.1 hw
      obtain ⟨N, rfl⟩ := Int.eq_ofNat_of_zero_le hwi.1
      have hN12 : N ≤ 12 := by omega
      have HF := Lib.hid (HR.out.trans (show pumpedL a p q (N : Int) = pumpL a p q N from (if_pos (by rw [pumpOk, g, hw]; rfl)).trans (by simp)))
      rw [hw] at HWI
      have hgp : -1 ≤ p ∧ p < (a.accept.length : Int) := by omega
      have HI := Lib.hid (fun (s : Int) (W : World) (hW : Below w.heap.size w W) (hs : -1 ≤ s ∧ s < (a.accept.length : Int)) => images_any (H := Unit) _ a s q W (HV.out.keep hW) hg.2.2 hs hg.2.1)
      have HPM := Lib.hid (pumpL_mem hg.2.2 (q := q) hgp)
      have HPL := Lib.hid (pumpL_len hg.2.2 (q := q) hgp)
      have HIL := Lib.hid (imgAll_len hg.2.2 q)
      have HIA := Lib.hid (fun s => imgA_len hg.2.2 s q)
      clear g hg HR hw hwi hgp
      go_enter Try.func8, Try.ntmps8
      go_wp2_with fail
      refine HOK.out.mono ?_
      rintro e w1 ⟨rfl, hb2⟩
      rw [show (wi p 0 ((a.accept.length : Int) - 1) && wi q 0 ((a.accept.length : Int) - 1) && auOk a) = true from HG.out]
      have b0 := ((Blk.new w _ _ w.heap.size rfl).alloc _).keep hb2
      have x0 : w1.cell? ⟨w.heap.size, 0, none⟩ = some _ := b0.cell 0
      have x1 : w1.cell? ⟨w.heap.size, 1, none⟩ = some _ := b0.cell 1
      have x2 : w1.cell? ⟨w.heap.size, 2, none⟩ = some _ := b0.cell 2
      have hb3 := below_trans hb1 hb2
      have lb0 := b0.lt
      clear hb2 b0
      go_wp2_with fail
      refine (HWI.out _).mono ?_
      rintro e w9 ⟨rfl, hw9⟩
      rw [hw9]
      clear hw9
      go_wp2_with fail
      have HX := Lib.hid (And.intro x0 (And.intro x1 x2))
      have HB3 := Lib.hid hb3
      have hs3 := hb3.size
      have HL0 := Lib.hid (show Own w1.heap.size (w1.alloc (.cells #[.int .i64 p] 3)).heap.size (w1.alloc (.cells #[.int .i64 p] 3)) 3 cI 1 (.slice (some ⟨w1.heap.size, 0, none⟩) 1 1) (pumpL a p q 0) from
        Own.of_row (xs := [p]) (World.ownsRow_lit (base := w1.heap.size) (e := 3) (size := 1) w1 #[.int .i64 p] 1 (Nat.le_refl _) (by decide) rfl) rfl rfl)
      have HB4 := Lib.hid ((Below.refl w1.heap.size w1).alloc (Nat.le_refl _) (.cells #[.int .i64 p] 3))
      clear x0 x1 x2 hb3
      go_loopw [3, 9] (fun tt ll wr => ∃ k : Nat, k ≤ N ∧ tt = .int .i64 ((N : Int) - (k : Int)) ∧ Own w1.heap.size wr.heap.size wr 3 cI 1 ll (pumpL a p q k) ∧ Below w1.heap.size w1 wr) (fun tt _ _ => (intOf tt).toNat)
      case atStart => exact ⟨0, by omega, by simp, HL0.out, HB4.out⟩
      case round =>
        clear HL0 HB4
        obtain ⟨k, hk, rfl, hown, hbel⟩ := hrel
        obtain ⟨A5, c5, rfl, hl5, hm5, hC5⟩ := SlE.form ((hown.sl cI_len).all (Nat.le_refl _))
        have hkl := HPL.out k
        have HPK := Lib.hid (HPM.out k)
        obtain ⟨L, hL⟩ : ∃ L, L = pumpL a p q k := ⟨_, rfl⟩
        have HLS := Lib.hid (show ascL (imgAll a q L) = pumpL a p q (k + 1) by rw [hL]; rfl)
        rw [← hL] at hown hl5 hC5 hkl HPK ⊢
        have HLE := Lib.hid hL
        have HBEL := Lib.hid hbel
        have hsr := hbel.size
        obtain ⟨wo, hwo⟩ : ∃ wo : World, wo = wr := ⟨_, rfl⟩
        rw [← hwo] at HBEL hown hC5 hsr ⊢
        have HOWN := Lib.hid hown
        have HC5 := Lib.hid hC5
        clear hown hbel hwo hC5 hL
        by_cases hlt : k < N
        · have hpos : (0 : Int) < (N : Int) - (k : Int) := by omega
          go_wp2_with fail
          have HRN := Lib.hid (show (wo.alloc (.cells #[] 3)).ownsRow wo.heap.size 3 1 (.slice (some ⟨wo.heap.size, 0, none⟩) 0 0) (imgAll a q (L.take 0)).length ((imgAll a q (L.take 0)).flatMap cI) from
            World.ownsRow_lit (base := wo.heap.size) (e := 3) (size := 1) wo #[] 0 (Nat.le_refl _) (by decide) rfl)
          have HBN := Lib.hid ((Below.refl wo.heap.size wo).alloc (Nat.le_refl _) (.cells #[] 3))
          go_loopw [10, 33] (fun nn ii wr => ∃ i : Nat, i ≤ L.length ∧ ii = .int .i64 (i : Int) ∧ wr.ownsRow wo.heap.size 3 1 nn (imgAll a q (L.take i)).length ((imgAll a q (L.take i)).flatMap cI) ∧ Below wo.heap.size wo wr) (fun _ ii _ => L.length - (intOf ii).toNat)
          case atStart => exact ⟨0, Nat.zero_le _, rfl, HRN.out, HBN.out⟩
          case round =>
            clear HRN HBN
            obtain ⟨i, hi, rfl, hrow, hbel⟩ := hrel
            have hil := HIL.out (L.take i)
            have htl : (L.take i).length ≤ 13 := by rw [List.length_take]; omega
            have hbw := HB3.out.trans ((HBEL.out.mono hs3).trans (hbel.mono (Nat.le_trans hs3 hsr)))
            by_cases hli : i < L.length
            · have hxi : L[i]? = some L[i] := List.getElem?_eq_getElem hli
              have hxm := HPK.out _ (List.getElem_mem hli)
              generalize L[i] = s at hxi hxm
              obtain ⟨b5, o5, rfl, hb5, d5⟩ := HC5.out.int hxi
              have d5 := kcell hbel d5
              have hb5 := Nat.lt_of_lt_of_le hb5 hbel.size
              have hii : (i : Int) < (L.length : Int) := by omega
              have hW1 := (HBEL.out.trans (hbel.mono hsr))
              have x0 := kcell hW1 HX.out.1
              have x1 := kcell hW1 HX.out.2.1
              have x2 := kcell hW1 HX.out.2.2
              have lb := Nat.lt_of_lt_of_le lb0 hW1.size
              have HSN := Lib.hid (imgAll_snoc (a := a) (q := q) hxi)
              have HIM := Lib.hid (HI.out s wr hbw hxm)
              have hial := HIA.out s
              have HROW := Lib.hid hrow
              have HBL := Lib.hid hbel
              have hsb := hbel.size
              clear hrow hbel hxi hbw hW1
              generalize imgAll a q (L.take i) = M at *
              go_wp2_with fail
              refine HIM.out.mono ?_
              rintro e w5 ⟨v5, rfl, ho5, hb5'⟩
              have hsl5 := (ho5.sl cI_len).all (Nat.le_refl _)
              have hl5e : (imgA a s q).length ≤ 13 := hial
              have HSL5 := Lib.hid (show SlE w5 cI 1 v5 (imgA a s q) from hsl5)
              have HRO5 := Lib.hid (ownsRow_below HROW.out hb5' (Nat.le_refl _))
              have HB5 := Lib.hid (HBL.out.trans (hb5'.mono hsb))
              have hs5 := hb5'.size
              obtain ⟨A9, n9, c9, rfl⟩ := ho5.shape
              clear ho5 hsl5 hb5'
              generalize imgA a s q = I at *
              go_wp2_with (at_builtin; (refine wpList_appendL cI elInt cI_len cI_one rfl _ _ rfl wo.heap.size _ M I (by rfl) HRO5.out 0 _ _ (by rfl) HSL5.out (by omega) (by omega) (by omega) ?_); intro v6 w6 hrow6 hgr6 hat6)
              have hb6 := HB5.out.trans (own_below HRO5.out (by omega) hgr6)
              have hs6 := hb6.size
              clear hat6 hgr6
              go_roundw
              case rel => exact ⟨i + 1, by omega, by go_num, by rw [HSN.out]; exact hrow6, hb6⟩
              case measure => simp [intOf]; omega
            · obtain rfl : i = L.length := by omega
              rw [List.take_length] at hrow hil
              have hasc := ascending_any _ (imgAll a q L) wr (((Own.of_row (xs := imgAll a q L) hrow rfl rfl).sl cI_len).all (Nat.le_refl _)) (by omega)
              rw [HLS.out] at hasc
              have HAS := Lib.hid hasc
              have HBL := Lib.hid hbel
              have hsb := hbel.size
              have hsh : ∃ A6 n6 c6, u10 = .slice A6 n6 c6 := (Own.of_row (xs := imgAll a q L) hrow rfl rfl).shape
              obtain ⟨A6, n6, c6, rfl⟩ := hsh
              clear hrow hil hbel hasc hbw
              go_wp2_with fail
              refine HAS.out.mono ?_
              rintro e w7 ⟨v7, rfl, ho7, hb7⟩
              have HO7 := Lib.hid (ho7.mono (show w1.heap.size ≤ wr.heap.size by omega) (Nat.le_refl _))
              have HB7 := Lib.hid (HBEL.out.trans ((HBL.out.mono hsr).trans (hb7.mono (show w1.heap.size ≤ wr.heap.size by omega))))
              clear ho7 hb7
              go_wp2_with fail
              go_roundw
              case rel => exact ⟨k + 1, by omega, by congr 1; omega, HO7.out, HB7.out⟩
              case measure => simp [intOf]; omega
        · obtain rfl : k = N := by omega
          have hpos : ¬ (0 : Int) < (k : Int) - (k : Int) := by omega
          have HO := Lib.hid (HOWN.out.mono (lo' := w.heap.size) hs3 (Nat.le_refl _))
          have HB := Lib.hid (HB3.out.trans (HBEL.out.mono hs3))
          have HRE := Lib.hid (HF.out.trans HLE.out.symm)
          go_wp2_with fail
          go_ret
          rw [HRE.out]
          exact ⟨_, rfl, HO.out, HB.out⟩
  · have HF := Lib.hid (HR.out.trans (show pumpedL a p q n = [] from if_neg (by rw [pumpOk, show stB a p q = false by simpa using g]; simp)))
    have HG := Lib.hid (show stB a p q = false by simpa using g)
    clear g HR
    go_enter Try.func8, Try.ntmps8
    go_wp2_with fail
    refine HOK.out.mono ?_
    rintro e w1 ⟨rfl, hb2⟩
    rw [show (wi p 0 ((a.accept.length : Int) - 1) && wi q 0 ((a.accept.length : Int) - 1) && auOk a) = false from HG.out]
    have hb3 := below_trans hb1 hb2
    clear hb2
    go_wp2_with fail
    go_ret
    rw [HF.out]
    exact ⟨_, rfl, Own.nil _ _ _ _ _ _, hb3⟩
end Go.Proofs.Ytallglnmeeahiaa

/- The reference's PumpedStates. -/
namespace Go.Proofs.Ytallglnmeeahiaa
set_option linter.unusedVariables false
set_option linter.unusedSimpArgs false
open Go.ChangeShapes Go.WideShapes Go.ChangeAt Go.RowKit
attribute [local go_sem] ext_cell ext_frozen ext_lt ext_lt1 ext_lt2 ext_lt3 ltn2 ltn3 ltn13 lts1 lts2 lts3

theorem elN : ElemOk Try.prog 30 3 (.int .i64 0) 1 8 := ⟨Try.underlying30, by kernel_rfl, rfl, by omega⟩
theorem maskOf_to {l : List Int} {i : Nat} {x : Int} (h : l[i]? = some x) : (l.take (i + 1)).foldl insN 0 = insN ((l.take i).foldl insN 0) x := foldl_take h 0
set_option maxHeartbeats 4000000 in
set_option maxRecDepth 100000 in
theorem l22Pumped_any (v : Value) (a : Au) (p q : Int) (N : Nat) (w : World) (hv : AuV 0 w.heap.size w v a) (hok : auOk a = true) (hp : 0 ≤ p ∧ p < (a.accept.length : Int)) (hq : 0 ≤ q ∧ q < (a.accept.length : Int)) (hN : N ≤ 12) :
    Calls Try.prog 44 #[v, .int .i64 p, .int .i64 q, .int .i64 (N : Int)] w fun e w' => ∃ v', e = .returned v' ∧ Own w.heap.size w'.heap.size w' 3 cI 1 v' (pumpL a p q N) ∧ Below w.heap.size w w' := by
  have hv0 := hv
  obtain ⟨A1, c1, A2, c2, rfl, hl1, hm1, hl2, hm2, -⟩ := hv.form hok
  have hn12 := (auOk_iff.1 hok).1.2
  obtain ⟨RR, hRR⟩ : ∃ RR, RR = pumpL a p q N := ⟨_, rfl⟩
  rw [← hRR]
  have hgp : -1 ≤ p ∧ p < (a.accept.length : Int) := by omega
  have HRR := Lib.hid (hRR.trans (setK_asc hok (q := q) hgp N).symm)
  have HV := Lib.hid hv0
  have HI := Lib.hid (fun (s : Int) (W : World) (hW : Below w.heap.size w W) (hs : -1 ≤ s ∧ s < (a.accept.length : Int)) => l22Images_any _ a s q W (HV.out.keep hW) hok hs hq)
  have HMB := Lib.hid (fun i => (maskF_bits hok q i).lt)
  have HSB := Lib.hid (fun k => (setK_bits hok (q := q) hgp k).lt)
  have HOL := Lib.hid (fun s i => orTo_lt (n := 13) (fun j => (maskF_bits hok q j).lt) s i)
  have HIA := Lib.hid (fun s => imgA_len hok s q)
  have HIM := Lib.hid (fun (s x : Int) (hx : x ∈ imgA a s q) => imgA_mem hok hx)
  clear hv hv0 hok hRR hgp
  go_enter Try.func44, Try.ntmps44
  go_wp2_with fail
  obtain ⟨W0, hW0⟩ : ∃ W0, W0 = (w.alloc (.cells #[.int .i64 a.start, .slice A1 a.accept.length c1, .slice A2 a.accept.length c2] 27)) := ⟨_, rfl⟩
  have hb0 : Below w.heap.size w W0 := by rw [hW0]; exact (Below.refl _ _).alloc (Nat.le_refl _) _
  have hs0 : W0.heap.size = w.heap.size + 1 := by rw [hW0]; simp
  have x0 : W0.cell? ⟨w.heap.size, 0, none⟩ = some (.int .i64 a.start) := by rw [hW0]; simp
  have x1 : W0.cell? ⟨w.heap.size, 1, none⟩ = some (.slice A1 a.accept.length c1) := by rw [hW0]; simp
  have x2 : W0.cell? ⟨w.heap.size, 2, none⟩ = some (.slice A2 a.accept.length c2) := by rw [hW0]; simp
  rw [← hW0]
  have HB0 := Lib.hid hb0
  have HX := Lib.hid (And.intro x0 (And.intro x1 x2))
  have HR0 := Lib.hid (show (W0.alloc (.cells #[] 3)).ownsRow W0.heap.size 3 1 (.slice (some ⟨W0.heap.size, 0, none⟩) 0 0) ((List.range 0).map (maskF a q)).length (((List.range 0).map (maskF a q)).flatMap cN) from
    World.ownsRow_lit (base := W0.heap.size) (e := 3) (size := 1) W0 #[] 0 (Nat.le_refl _) (by decide) rfl)
  have HBA := Lib.hid ((Below.refl W0.heap.size W0).alloc (Nat.le_refl _) (.cells #[] 3))
  have hsW : w.heap.size ≤ W0.heap.size := by omega
  have hlW : w.heap.size < W0.heap.size := by omega
  rw [← hs0]
  clear hW0 hb0 x0 x1 x2 hs0
  try go_wp2_with fail
  go_loopw [9, 10] (fun mm ss wr => ∃ i : Nat, i ≤ a.accept.length + 1 ∧ ss = .int .i64 ((i : Int) - 1) ∧ wr.ownsRow W0.heap.size 3 1 mm ((List.range i).map (maskF a q)).length (((List.range i).map (maskF a q)).flatMap cN) ∧ Below W0.heap.size W0 wr ∧ (N = 0 → i = 0)) (fun _ ss _ => (a.accept.length + 1) - (intOf ss + 1).toNat)
  case atStart => exact ⟨0, by omega, rfl, HR0.out, HBA.out, fun _ => rfl⟩
  case round =>
    clear HR0 HBA
    obtain ⟨i, hi, rfl, hrow, hbel, hNi⟩ := hrel
    have x0 := kcell hbel HX.out.1
    have x1 := kcell hbel HX.out.2.1
    have x2 := kcell hbel HX.out.2.2
    have hsr := hbel.size
    have lb : w.heap.size < wr.heap.size := by omega
    have HROW := Lib.hid hrow
    have HBEL := Lib.hid hbel
    have hbw := HB0.out.trans (hbel.mono hsW)
    have HBW0 := Lib.hid hbw
    obtain ⟨wo, hwo⟩ : ∃ wo : World, wo = wr := ⟨_, rfl⟩
    rw [← hwo] at HROW HBEL HBW0 x0 x1 x2 hsr lb ⊢
    clear hrow hbel hwo hbw
    by_cases hlt : i < a.accept.length + 1 ∧ 0 < N
    · have hc1 : (i : Int) - 1 < (a.accept.length : Int) := by omega
      have hc2 : (0 : Int) < (N : Int) := by omega
      have HIC := Lib.hid (HI.out ((i : Int) - 1) wo HBW0.out (by omega))
      have HIX := Lib.hid (HIM.out ((i : Int) - 1))
      have hia := HIA.out ((i : Int) - 1)
      have HMF := Lib.hid (show maskF a q i = (imgA a ((i : Int) - 1) q).foldl insN 0 from rfl)
      rw [show ascL (outP q (imgEnd a ((i : Int) - 1) q)) = imgA a ((i : Int) - 1) q from rfl] at HIC
      have HRS := Lib.hid (show (List.range (i + 1)).map (maskF a q) = (List.range i).map (maskF a q) ++ [maskF a q i] by rw [List.range_succ, List.map_append]; rfl)
      have hml : ((List.range i).map (maskF a q)).length ≤ 13 := by simp; omega
      clear hNi
      generalize imgA a ((i : Int) - 1) q = I at *
      have hml2 := HMB.out i
      generalize (List.range i).map (maskF a q) = ML at *
      go_wp2_with fail
      refine HIC.out.mono ?_
      rintro e w5 ⟨v5, rfl, ho5, hb5⟩
      obtain ⟨A5, c5, rfl, hl5, hm5, hC5⟩ := SlE.form ((ho5.sl cI_len).all (Nat.le_refl _))
      have HC5 := Lib.hid hC5
      have HB5 := Lib.hid hb5
      have hs5 := hb5.size
      clear ho5 hb5 hC5 x0 x1 x2
      go_wp2_with fail
      go_loopw [12, 13] (fun mm jj wr => ∃ j : Nat, j ≤ I.length ∧ jj = .int .i64 (j : Int) ∧ mm = .int .i64 (((I.take j).foldl insN 0 : Nat) : Int) ∧ wr = w5) (fun _ jj _ => I.length - (intOf jj).toNat)
      case atStart => exact ⟨0, Nat.zero_le _, rfl, rfl, rfl⟩
      case round =>
        obtain ⟨j, hj, rfl, rfl, hw⟩ := hrel
        rw [hw]
        clear hw
        have hmlt : (I.take j).foldl insN 0 < 2 ^ 13 := maskOf_lt _ _ (by decide) (fun x hx => by have := HIX.out x (List.mem_of_mem_take hx); omega)
        by_cases hlj : j < I.length
        · have hxi : I[j]? = some I[j] := List.getElem?_eq_getElem hlj
          have hxm := HIX.out _ (List.getElem_mem hlj)
          generalize I[j] = x at hxi hxm
          obtain ⟨b5, o5, rfl, hb5, d5⟩ := HC5.out.int hxi
          have hjj : (j : Int) < (I.length : Int) := by omega
          obtain ⟨s, hs⟩ : ∃ s : Nat, x = (s : Int) - 1 := ⟨(x + 1).toNat, by omega⟩
          subst hs
          have hst := maskOf_to hxi
          rw [insN, show ((s : Int) - 1 + 1).toNat = s by omega] at hst
          have HST := Lib.hid hst
          clear hxi hst
          generalize (I.take j).foldl insN 0 = m at *
          have b1 := shl_bit (s := s) (by omega)
          have b2 := or_ins (m := m) (s := s) (by omega) (by omega)
          go_wp2_with fail
          go_roundw
          case rel => exact ⟨j + 1, by omega, by go_num, by rw [HST.out], by trivial⟩
          case measure => simp [intOf]; omega
        · obtain rfl : j = I.length := by omega
          rw [List.take_length, ← HMF.out]
          clear hmlt
          have hrow5 := ownsRow_below HROW.out HB5.out (Nat.le_refl _)
          have HR5 := Lib.hid hrow5
          have HBL5 := Lib.hid (HBEL.out.trans (HB5.out.mono hsr))
          clear hrow5
          generalize maskF a q i = mf at *
          go_wp2_with (at_builtin; (refine wpList_append1 cN elN rfl _ _ rfl W0.heap.size _ ML mf _ 1 _ (by rfl) HR5.out (by rfl) rfl rfl rfl (cN_one _) (by omega) (by omega) (by omega) ?_); intro v8 w8 hrow8 hb8 hat8 hgr8)
          clear hat8 hgr8
          go_roundw
          case rel => exact ⟨i + 1, by omega, by congr 1; omega, by rw [HRS.out]; exact hrow8, HBL5.out.trans hb8, fun h => by omega⟩
          case measure => simp [intOf]; omega
    · -- all masks are there
      have hgd : ¬ ((i : Int) - 1 < (a.accept.length : Int)) ∨ ((i : Int) - 1 < (a.accept.length : Int) ∧ ¬ ((0 : Int) < (N : Int))) := by omega
      have HML := Lib.hid (show N = 0 ∨ i = a.accept.length + 1 by
        rcases Nat.eq_zero_or_pos N with h | h
        · exact .inl h
        · exact .inr (by omega))
      have hmi : ((List.range i).map (maskF a q)).length = i := by simp
      have HMA := Lib.hid (fun (j : Nat) (h : j < i) => show ((List.range i).map (maskF a q))[j]? = some (maskF a q j) by simp [h])
      have hiN : i ≤ 13 := by omega
      obtain ⟨ML, hML⟩ : ∃ ML, ML = (List.range i).map (maskF a q) := ⟨_, rfl⟩
      rw [← hML] at HROW HMA hmi
      have hsh : ∃ A9 c9, u9 = .slice A9 i c9 ∧ SlC wo.heap.size wo cN 1 A9 ML := by
        have ho := Own.of_row (xs := ML) HROW.out rfl rfl
        obtain ⟨A, c, h1, _, _, h2⟩ := ho.form cN_len
        exact ⟨A, c, by rw [h1, hmi], h2⟩
      obtain ⟨A9, c9, rfl, hC9⟩ := hsh
      have HC9 := Lib.hid hC9
      obtain ⟨s0, hs0⟩ : ∃ s0 : Nat, p = (s0 : Int) := ⟨p.toNat, by omega⟩
      have b1 := shl_bit (s := s0 + 1) (by omega)
      have HS0 := Lib.hid (show bit (s0 + 1) = setK a p q 0 by rw [setK, hs0, show ((s0 : Int) + 1).toNat = s0 + 1 by omega])
      subst hs0
      have hpe : ((s0 : Int) + 1).toNat = s0 + 1 := by omega
      clear hlt hNi hML hmi hC9 HROW
      have hstep : True := trivial
      rcases hgd with hgd | ⟨hgd0, hgd⟩
      all_goals
        go_wp2_with fail
        rw [HS0.out]
        go_loopw [14, 15] (fun ss kk wr => ∃ k : Nat, k ≤ N ∧ kk = .int .i64 (k : Int) ∧ ss = .int .i64 ((setK a (s0 : Int) q k : Nat) : Int) ∧ wr = wo) (fun _ kk _ => N - (intOf kk).toNat)
        case atStart => exact ⟨0, Nat.zero_le _, rfl, rfl, rfl⟩
        case round =>
          obtain ⟨k, hk, rfl, rfl, hw⟩ := hrel
          rw [hw]
          clear hw
          by_cases hlk : k < N
          · have hkk : (k : Int) < (N : Int) := by omega
            have HSN := Lib.hid (show orTo (maskF a q) (setK a (s0 : Int) q k) i = setK a (s0 : Int) q (k + 1) by
              rcases HML.out with h | h
              · omega
              · rw [h]; rfl)
            have hsb := HSB.out k
            generalize setK a (s0 : Int) q k = S at *
            go_wp2_with fail
            go_loopw [16, 17] (fun mm jj wr => ∃ j : Nat, j ≤ i ∧ jj = .int .i64 (j : Int) ∧ mm = .int .i64 ((orTo (maskF a q) S j : Nat) : Int) ∧ wr = wo) (fun _ jj _ => i - (intOf jj).toNat)
            case atStart => exact ⟨0, Nat.zero_le _, rfl, rfl, rfl⟩
            case round =>
              obtain ⟨j, hj, rfl, rfl, hw⟩ := hrel
              rw [hw]
              clear hw
              by_cases hlj : j < i
              · have hjj : (j : Int) < (i : Int) := by omega
                have hob := HOL.out S j
                have hmb := HMB.out j
                obtain ⟨b9, o9, rfl, hb9, d9⟩ := HC9.out.nat (HMA.out j hlj)
                cases hb : S.testBit j with
                | false =>
                  have e3 := bit_off (m := S) (s := j) (by omega) (by omega) hb
                  have HM := Lib.hid (orTo_no (F := maskF a q) hb)
                  clear hb
                  go_wp2_with fail
                  go_roundw
                  case rel => exact ⟨j + 1, by omega, by go_num, by rw [HM.out], by trivial⟩
                  case measure => simp [intOf]; omega
                | true =>
                  have e3 := bit_on (m := S) (s := j) (by omega) (by omega) hb
                  have HM := Lib.hid (orTo_yes (F := maskF a q) hb)
                  have e4 := i64_or_nat (orTo (maskF a q) S j) (maskF a q j) (by omega) (by omega)
                  clear hb
                  generalize orTo (maskF a q) S j = M at *
                  generalize maskF a q j = F at *
                  go_wp2_with fail
                  go_roundw
                  case rel => exact ⟨j + 1, by omega, by go_num, by rw [HM.out], by trivial⟩
                  case measure => simp [intOf]; omega
              · obtain rfl : j = i := by omega
                rw [HSN.out]
                go_wp2_with fail
                go_roundw
                case rel => exact ⟨k + 1, by omega, by go_num, by trivial, by trivial⟩
                case measure => simp [intOf]; omega
          · obtain rfl : k = N := by omega
            have hsb := HSB.out k
            have hset := l4Set_any (setK a (s0 : Int) q k) wo (Nat.lt_of_lt_of_le hsb (Nat.pow_le_pow_right (by omega) (by omega)))
            have hml := mem_len 30 (setK a (s0 : Int) q k)
            have hmx : ∀ x ∈ memI 30 (setK a (s0 : Int) q k), 0 ≤ x ∧ x ≤ 30 := fun x hx => by
              obtain ⟨t, rfl, ht, _⟩ := mem_memI.1 hx
              omega
            have hml2 : (memI 30 (setK a (s0 : Int) q k)).length ≤ 30 := by rw [memI, List.length_map]; exact hml
            have HAS := Lib.hid HRR.out.symm
            clear HRR
            generalize memI 30 (setK a (s0 : Int) q k) = xs at *
            have HS := Lib.hid hset
            have HBW := HBW0
            have HMX := Lib.hid hmx
            clear hset hmx hml
            go_wp2_with fail
            refine HS.out.mono ?_
            rintro e w2 ⟨v2, rfl, ho2, hb2⟩
            have hrow2 := ho2.1
            have hsb := HBW.out.size
            have hb2w := below_trans HBW.out hb2
            have hls2 := hb2.size
            have hshp : ∃ A c, v2 = .slice A xs.length c := by
              rcases hrow2.2 with ⟨h1, h2⟩ | ⟨g, cap, cur, h1, _⟩
              · exact ⟨none, 0, by rw [h1, h2]⟩
              · exact ⟨_, _, h1⟩
            obtain ⟨A9, c9, rfl⟩ := hshp
            have HR2 := Lib.hid (show w2.ownsRow w.heap.size 3 1 (.slice A9 xs.length c9) xs.length ((lessL xs 0).flatMap cI) from by
              have h := ownsRow_mono hrow2 hsb
              simpa [lessL] using h)
            have HB2 := Lib.hid hb2w
            clear ho2 hrow2 hb2 hb2w
            go_wp2_with fail
            go_loopw [19] (fun ii wr => ∃ i : Nat, i ≤ xs.length ∧ ii = .int .i64 (i : Int) ∧ wr.ownsRow w.heap.size 3 1 (.slice A9 xs.length c9) xs.length ((lessL xs i).flatMap cI) ∧ Below w.heap.size w wr) (fun ii _ => xs.length - (intOf ii).toNat)
            case atStart => exact ⟨0, Nat.zero_le _, rfl, HR2.out, HB2.out⟩
            case round =>
              clear HR2 HB2
              obtain ⟨i, hi, rfl, hrow, hbel⟩ := hrel
              by_cases hlt2 : i < xs.length
              · have hxi : xs[i]? = some xs[i] := List.getElem?_eq_getElem hlt2
                have hxm := HMX.out _ (List.getElem_mem hlt2)
                generalize xs[i] = x at hxi hxm
                obtain ⟨g, hA⟩ : ∃ g, A9 = some ⟨g, 0, none⟩ := by
                  rcases hrow.2 with ⟨_, h2⟩ | ⟨g, cap, cur, h1, _⟩
                  · omega
                  · injection h1 with h1 _ _; exact ⟨g, h1⟩
                subst hA
                have hf := World.ownsRow.frozenAt hrow i
                have hc := World.ownsRow.cellAt hrow i (by omega)
                have hle := lessL_at hxi
                have hfl : ((lessL xs i).flatMap cI)[i]? = some (.int .i64 x) := by have := flat_at (E := cI) (k := 1) cI_len hle 0 _ rfl; simpa using this
                rw [hfl] at hc
                have hst := (World.ownsRow.stored hrow i (.int .i64 (x - 1))).1
                rw [flatI_set, lessL_set hxi] at hst
                have hlg := hrow.lt g rfl
                have hbs := hbel.setCell (p := ⟨g, i, none⟩) hlg.1 (.int .i64 (x - 1))
                have HST := Lib.hid hst
                have HBS := Lib.hid hbs
                have hii : (i : Int) < (xs.length : Int) := by omega
                have hgl := hlg.2
                clear hle hfl hst hbs hxi hrow hlg
                go_wp2_with fail
                go_roundw
                case rel => exact ⟨i + 1, by omega, by go_num, HST.out, HBS.out⟩
                case measure => simp [intOf]; omega
              · obtain rfl : i = xs.length := by omega
                have hfin : lessL xs xs.length = xs.map (· - 1) := by simp [lessL]
                rw [hfin] at hrow
                have hown := Own.of_row (xs := xs.map (· - 1)) hrow (by simp) rfl
                rw [HAS.out] at hown
                have HO := Lib.hid hown
                clear hrow hfin hown
                go_wp2_with fail
                go_ret
                exact ⟨_, rfl, HO.out, hbel⟩
set_option maxHeartbeats 1000000 in
theorem specPumpedStates (v : Value) (a : Au) (p q n : Int) (w : World) (hv : AuV 0 w.heap.size w v a) :
    Calls Try.prog 10 #[v, .int .i64 p, .int .i64 q, .int .i64 n] w fun e w' => ∃ v', e = .returned v' ∧ Own w.heap.size w'.heap.size w' 3 cI 1 v' (pumpedL a p q n) ∧ Below w.heap.size w w' := by
  have hv0 := hv
  obtain ⟨A1, n1, c1, A2, n2, c2, rfl⟩ := hv.shape
  clear hv
  have hb0 : Below w.heap.size w (w.alloc (.cells #[.int .i64 a.start, .slice A1 n1 c1, .slice A2 n2 c2] 27)) := (Below.refl _ _).alloc (Nat.le_refl _) _
  obtain ⟨R, hR⟩ : ∃ R, R = pumpedL a p q n := ⟨_, rfl⟩
  rw [← hR]
  have HR := Lib.hid hR
  have HW := Lib.hid (fun W => l1In_any n 0 12 W)
  have HV := Lib.hid hv0
  have HST := Lib.hid (fun (s : Int) (W : World) (hW : Below w.heap.size w W) => l22State_any _ a s W (HV.out.keep hW))
  clear hR hv0
  cases g1 : (auOk a && wi p 0 ((a.accept.length : Int) - 1)) with
  | false =>
    have HF := Lib.hid (HR.out.trans (show pumpedL a p q n = [] from if_neg (by intro h; have h2 := stB_iff.1 (show stB a p q = true by rw [pumpOk, Bool.and_eq_true] at h; exact h.1); rw [h2.2.2, Bool.true_and, wi_iff.2 ⟨h2.1.1, by omega⟩] at g1; cases g1)))
    have HG1 := Lib.hid g1
    clear g1 HR
    go_enter Try.func10, Try.ntmps10
    go_wp2_with fail
    refine (HST.out p _ hb0).mono ?_
    rintro e w1 ⟨rfl, hb1⟩
    rw [HG1.out]
    have hb2 := below_trans hb0 hb1
    clear hb1
    go_wp2_with fail
    go_ret
    rw [HF.out]
    exact ⟨_, rfl, lit_nilL hb2.size, hb2.alloc hb2.size _⟩
  | true =>
    have HG1 := Lib.hid g1
    cases g2 : (auOk a && wi q 0 ((a.accept.length : Int) - 1)) with
    | false =>
      have HF := Lib.hid (HR.out.trans (show pumpedL a p q n = [] from if_neg (by intro h; have h2 := stB_iff.1 (show stB a p q = true by rw [pumpOk, Bool.and_eq_true] at h; exact h.1); rw [h2.2.2, Bool.true_and, wi_iff.2 ⟨h2.2.1.1, by omega⟩] at g2; cases g2)))
      have HG2 := Lib.hid g2
      clear g1 g2 HR
      go_enter Try.func10, Try.ntmps10
      go_wp2_with fail
      refine (HST.out p _ hb0).mono ?_
      rintro e w1 ⟨rfl, hb1⟩
      rw [HG1.out]
      have b0 := (Blk.new w _ _ w.heap.size rfl).keep hb1
      have x0 : w1.cell? ⟨w.heap.size, 0, none⟩ = some _ := b0.cell 0
      have x1 : w1.cell? ⟨w.heap.size, 1, none⟩ = some _ := b0.cell 1
      have x2 : w1.cell? ⟨w.heap.size, 2, none⟩ = some _ := b0.cell 2
      have hb2 := below_trans hb0 hb1
      clear hb1 b0
      go_wp2_with fail
      refine (HST.out q _ hb2).mono ?_
      rintro e w2 ⟨rfl, hb3⟩
      rw [HG2.out]
      have hb4 := below_trans hb2 hb3
      clear hb3
      go_wp2_with fail
      go_ret
      rw [HF.out]
      exact ⟨_, rfl, lit_nilL hb4.size, hb4.alloc hb4.size _⟩
    | true =>
      have hs : stB a p q = true := by
        simp only [Bool.and_eq_true] at g1 g2
        rw [stB, g1.2, g2.2, g1.1]; rfl
      have hg := stB_iff.1 hs
      have HG2 := Lib.hid g2
      cases hw : wi n 0 12 with
      | false =>
        have HF := Lib.hid (HR.out.trans (show pumpedL a p q n = [] from if_neg (by rw [pumpOk, hw]; simp)))
        rw [hw] at HW
        clear g1 g2 HR hs hg hw
        go_enter Try.func10, Try.ntmps10
        go_wp2_with fail
        refine (HST.out p _ hb0).mono ?_
        rintro e w1 ⟨rfl, hb1⟩
        rw [HG1.out]
        have b0 := (Blk.new w _ _ w.heap.size rfl).keep hb1
        have x0 : w1.cell? ⟨w.heap.size, 0, none⟩ = some _ := b0.cell 0
        have x1 : w1.cell? ⟨w.heap.size, 1, none⟩ = some _ := b0.cell 1
        have x2 : w1.cell? ⟨w.heap.size, 2, none⟩ = some _ := b0.cell 2
        have hb2 := below_trans hb0 hb1
        clear hb1
        go_wp2_with fail
        refine (HST.out q _ hb2).mono ?_
        rintro e w2 ⟨rfl, hb3⟩
        rw [HG2.out]
        have b1 := b0.keep hb3
        have x0 : w2.cell? ⟨w.heap.size, 0, none⟩ = some _ := b1.cell 0
        have x1 : w2.cell? ⟨w.heap.size, 1, none⟩ = some _ := b1.cell 1
        have x2 : w2.cell? ⟨w.heap.size, 2, none⟩ = some _ := b1.cell 2
        have hb4 := below_trans hb2 hb3
        clear hb3 b0 b1
        go_wp2_with fail
        refine (HW.out _).mono ?_
        rintro e w9 ⟨rfl, hw9⟩
        rw [hw9]
        clear hw9
        go_wp2_with fail
        go_ret
        rw [HF.out]
        exact ⟨_, rfl, lit_nilL hb4.size, hb4.alloc hb4.size _⟩
      | true =>
        have hwi := wi_iff.1 hw
        obtain ⟨N, rfl⟩ := Int.eq_ofNat_of_zero_le hwi.1
        have HF := Lib.hid (HR.out.trans (show pumpedL a p q (N : Int) = pumpL a p q N from (if_pos (by rw [pumpOk, hs, hw]; rfl)).trans (by simp)))
        have HI := Lib.hid (fun (W : World) (hW : Below w.heap.size w W) => l22Pumped_any _ a p q N W (HV.out.keep hW) hg.2.2 hg.1 hg.2.1 (by omega))
        rw [hw] at HW
        clear g1 g2 HR hs hg hw hwi
        go_enter Try.func10, Try.ntmps10
        go_wp2_with fail
        refine (HST.out p _ hb0).mono ?_
        rintro e w1 ⟨rfl, hb1⟩
        rw [HG1.out]
        have b0 := (Blk.new w _ _ w.heap.size rfl).keep hb1
        have x0 : w1.cell? ⟨w.heap.size, 0, none⟩ = some _ := b0.cell 0
        have x1 : w1.cell? ⟨w.heap.size, 1, none⟩ = some _ := b0.cell 1
        have x2 : w1.cell? ⟨w.heap.size, 2, none⟩ = some _ := b0.cell 2
        have hb2 := below_trans hb0 hb1
        clear hb1
        go_wp2_with fail
        refine (HST.out q _ hb2).mono ?_
        rintro e w2 ⟨rfl, hb3⟩
        rw [HG2.out]
        have b1 := b0.keep hb3
        have x0 : w2.cell? ⟨w.heap.size, 0, none⟩ = some _ := b1.cell 0
        have x1 : w2.cell? ⟨w.heap.size, 1, none⟩ = some _ := b1.cell 1
        have x2 : w2.cell? ⟨w.heap.size, 2, none⟩ = some _ := b1.cell 2
        have hb4 := below_trans hb2 hb3
        clear hb3 b0 b1
        go_wp2_with fail
        refine (HW.out _).mono ?_
        rintro e w9 ⟨rfl, hw9⟩
        rw [hw9]
        clear hw9
        go_wp2_with fail
        refine (HI.out _ hb4).mono ?_
        rintro e w5 ⟨v5, rfl, ho, hb5⟩
        have HO := Lib.hid (ho.mono hb4.size (Nat.le_refl _))
        obtain ⟨A9, n9, c9, rfl⟩ := ho.shape
        have HB := Lib.hid (below_trans hb4 hb5)
        clear ho hb5
        go_wp2_with fail
        go_ret
        rw [HF.out]
        exact ⟨_, rfl, HO.out, HB.out⟩
end Go.Proofs.Ytallglnmeeahiaa

/- Which states are reached: the search with a queue, and the rounds until nothing more comes. Plain lists. -/
namespace Go.Proofs.Ytallglnmeeahiaa
set_option linter.unusedVariables false
set_option linter.unusedSimpArgs false

def stepT (nx : List (List Int)) (s t : Nat) : Prop := ∃ row, nx[s]? = some row ∧ (t : Int) ∈ row
def Reach (nx : List (List Int)) (s t : Nat) : Prop := ∀ S : Nat → Prop, S s → (∀ x y, S x → stepT nx x y → S y) → S t
theorem Reach.refl (nx : List (List Int)) (s : Nat) : Reach nx s s := fun _ h _ => h
theorem Reach.step {nx : List (List Int)} {s x y : Nat} (h : Reach nx s x) (hs : stepT nx x y) : Reach nx s y := fun S h0 hc => hc x y (h S h0 hc) hs
theorem Reach.trans {nx : List (List Int)} {s x y : Nat} (h : Reach nx s x) (h2 : Reach nx x y) : Reach nx s y := fun S h0 hc => h2 S (h S h0 hc) hc
def Onward (nx : List (List Int)) (s t : Nat) : Prop := ∃ y, stepT nx s y ∧ Reach nx y t
theorem reach_iff {nx : List (List Int)} {s t : Nat} : Reach nx s t ↔ s = t ∨ Onward nx s t := by
  constructor
  · intro h
    refine h (fun t => s = t ∨ Onward nx s t) (.inl rfl) ?_
    rintro x y (rfl | ⟨z, h1, h2⟩) hxy
    · exact .inr ⟨y, hxy, Reach.refl _ _⟩
    · exact .inr ⟨z, h1, h2.step hxy⟩
  · rintro (rfl | ⟨y, h1, h2⟩)
    · exact Reach.refl _ _
    · exact ((Reach.refl nx s).step h1).trans h2

/-- all numbers in the rows are below n, or negative -/
def RowsIn (nx : List (List Int)) (n : Nat) : Prop := nx.length = n ∧ ∀ row ∈ nx, ∀ t ∈ row, t ≤ (n : Int) - 1
theorem stepT_lt {nx : List (List Int)} {n s t : Nat} (h : RowsIn nx n) (hs : stepT nx s t) : s < n ∧ t < n := by
  obtain ⟨row, h1, h2⟩ := hs
  have h3 := h.2 row (List.mem_of_getElem? h1) _ h2
  have h4 := (List.getElem?_eq_some_iff.1 h1).1
  rw [h.1] at h4
  exact ⟨h4, by omega⟩

/-- between two rounds of the outer loop -/
structure BfsOut (nx : List (List Int)) (n st : Nat) (bs : List Bool) (q : List Int) : Prop where
  len : bs.length = n
  sound : ∀ t : Nat, bs[t]? = some true → Reach nx st t
  start : bs[st]? = some true
  queue : ∀ x ∈ q, 0 ≤ x ∧ bs[x.toNat]? = some true
  done : ∀ s t : Nat, bs[s]? = some true → (s : Int) ∈ q ∨ (stepT nx s t → bs[t]? = some true)
/-- inside: the row of h is read up to j -/
structure BfsIn (nx : List (List Int)) (n st : Nat) (bs : List Bool) (h : Nat) (q : List Int) (row : List Int) (j : Nat) : Prop where
  len : bs.length = n
  sound : ∀ t : Nat, bs[t]? = some true → Reach nx st t
  start : bs[st]? = some true
  head : bs[h]? = some true
  isrow : nx[h]? = some row
  queue : ∀ x ∈ q, 0 ≤ x ∧ bs[x.toNat]? = some true
  done : ∀ s t : Nat, bs[s]? = some true → (s : Int) ∈ (h : Int) :: q ∨ (stepT nx s t → bs[t]? = some true)
  part : ∀ (i t : Nat), i < j → row[i]? = some (t : Int) → bs[t]? = some true

theorem set_true_of {bs : List Bool} {t x : Nat} (h : bs[x]? = some true) : (bs.set t true)[x]? = some true := by
  rw [List.getElem?_set]
  split
  · rename_i e; subst e
    have := (List.getElem?_eq_some_iff.1 h).1
    simp [this]
  · exact h
theorem set_true_iff {bs : List Bool} {t x : Nat} (ht : t < bs.length) : (bs.set t true)[x]? = some true ↔ x = t ∨ bs[x]? = some true := by
  rw [List.getElem?_set]
  split
  · rename_i e; subst e; simp [ht]
  · rename_i e
    constructor
    · exact .inr
    · rintro (rfl | h)
      · exact absurd rfl e
      · exact h

theorem BfsOut.init {nx : List (List Int)} {n st : Nat} (hst : st < n) : BfsOut nx n st ((List.replicate n false).set st true) [(st : Int)] := by
  have hi : ∀ t : Nat, ((List.replicate n false).set st true)[t]? = some true ↔ t = st := by
    intro t
    rw [set_true_iff (by simpa using hst), List.getElem?_replicate]
    constructor
    · rintro (h | h)
      · exact h
      · split at h <;> simp at h
    · exact .inl
  refine ⟨by simp, fun t h => ?_, (hi st).2 rfl, fun x hx => ?_, fun s t h => ?_⟩
  · rw [(hi t).1 h]; exact Reach.refl _ _
  · have : x = (st : Int) := by simpa using hx
    subst this
    exact ⟨by omega, by simpa using (hi st).2 rfl⟩
  · rw [(hi s).1 h]; exact .inl (by simp)
theorem BfsOut.enter {nx : List (List Int)} {n st h : Nat} {bs : List Bool} {q row : List Int} (hb : BfsOut nx n st bs ((h : Int) :: q)) (hr : nx[h]? = some row) : BfsIn nx n st bs h q row 0 :=
  ⟨hb.len, hb.sound, hb.start, by have := (hb.queue h (by simp)).2; simpa using this, hr, fun x hx => hb.queue x (List.mem_cons_of_mem _ hx), hb.done, fun i t hi => absurd hi (by omega)⟩
theorem BfsIn.hit {nx : List (List Int)} {n st h j : Nat} {bs : List Bool} {q row : List Int} {t : Int} (hb : BfsIn nx n st bs h q row j) (ht : row[j]? = some t) (hh : t < 0 ∨ bs[t.toNat]? = some true) : BfsIn nx n st bs h q row (j + 1) :=
  ⟨hb.len, hb.sound, hb.start, hb.head, hb.isrow, hb.queue, hb.done, fun i u hi hu => by
    by_cases hij : i < j
    · exact hb.part i u hij hu
    · have : i = j := by omega
      subst this
      rw [ht] at hu
      injection hu with hu
      subst hu
      rcases hh with hh | hh
      · omega
      · simpa using hh⟩
theorem BfsIn.new {nx : List (List Int)} {n st h j : Nat} {bs : List Bool} {q row : List Int} {t : Nat} (hb : BfsIn nx n st bs h q row j) (ht : row[j]? = some (t : Int)) (htn : t < n) : BfsIn nx n st (bs.set t true) h (q ++ [(t : Int)]) row (j + 1) := by
  have hlt : t < bs.length := by rw [hb.len]; exact htn
  have hstep : stepT nx h t := ⟨row, hb.isrow, List.mem_of_getElem? ht⟩
  refine ⟨by rw [List.length_set]; exact hb.len, fun x hx => ?_, set_true_of hb.start, set_true_of hb.head, hb.isrow, fun x hx => ?_, fun s u hs => ?_, fun i u hi hu => ?_⟩
  · rcases (set_true_iff hlt).1 hx with rfl | hx
    · exact (hb.sound h hb.head).step hstep
    · exact hb.sound x hx
  · rcases List.mem_append.1 hx with hx | hx
    · exact ⟨(hb.queue x hx).1, set_true_of (hb.queue x hx).2⟩
    · have : x = (t : Int) := by simpa using hx
      subst this
      exact ⟨by omega, (set_true_iff hlt).2 (.inl (by simp))⟩
  · rcases (set_true_iff hlt).1 hs with rfl | hs
    · exact .inl (by simp)
    · rcases hb.done s u hs with h1 | h1
      · refine .inl ?_
        rcases List.mem_cons.1 h1 with h1 | h1
        · rw [h1]; simp
        · simp [h1]
      · exact .inr fun h2 => set_true_of (h1 h2)
  · by_cases hij : i < j
    · exact set_true_of (hb.part i u hij hu)
    · have : i = j := by omega
      subst this
      rw [ht] at hu
      have : t = u := by injection hu with hu; omega
      subst this
      exact (set_true_iff hlt).2 (.inl rfl)
theorem BfsIn.leave {nx : List (List Int)} {n st h : Nat} {bs : List Bool} {q row : List Int} (hb : BfsIn nx n st bs h q row row.length) : BfsOut nx n st bs q := by
  refine ⟨hb.len, hb.sound, hb.start, hb.queue, fun s t hs => ?_⟩
  rcases hb.done s t hs with h1 | h1
  · rcases List.mem_cons.1 h1 with h1 | h1
    · have : s = h := by omega
      subst this
      refine .inr ?_
      rintro ⟨r, hr, hm⟩
      rw [hb.isrow] at hr
      injection hr with hr
      subst hr
      obtain ⟨i, hi, hie⟩ := List.getElem_of_mem hm
      exact hb.part i t hi (by rw [List.getElem?_eq_getElem hi, hie])
    · exact .inl h1
  · exact .inr h1
theorem BfsOut.fin {nx : List (List Int)} {n st : Nat} {bs : List Bool} (hb : BfsOut nx n st bs []) (t : Nat) : bs[t]? = some true ↔ Reach nx st t := by
  refine ⟨hb.sound t, fun h => h (fun t => bs[t]? = some true) hb.start fun x y hx hxy => ?_⟩
  rcases hb.done x y hx with h1 | h1
  · simp at h1
  · exact h1 hxy

/-! ### rounds until nothing more comes -/
def trues (bs : List Bool) : Nat := bs.count true
theorem trues_set {bs : List Bool} {t : Nat} (h : bs[t]? = some false) : trues (bs.set t true) = trues bs + 1 := by
  induction bs generalizing t with
  | nil => simp at h
  | cons b bs ih =>
    cases t with
    | zero =>
      have : b = false := by simpa using h
      subst this
      simp [trues]
    | succ t =>
      have := ih (t := t) (by simpa using h)
      simp only [List.set_cons_succ, trues, List.count_cons] at this ⊢
      omega
theorem trues_le (bs : List Bool) : trues bs ≤ bs.length := List.count_le_length
theorem set_true_self {bs : List Bool} {t : Nat} (h : bs[t]? = some true) : bs.set t true = bs := by
  apply List.ext_getElem?
  intro i
  rw [List.getElem?_set]
  split
  · rename_i e; subst e
    rw [h]
    have := (List.getElem?_eq_some_iff.1 h).1
    simp [this]
  · rfl

/-- the set bs has all direct followers of 'fr', and only what is onward of it -/
structure OnBase (nx : List (List Int)) (n fr : Nat) (bs : List Bool) : Prop where
  len : bs.length = n
  sound : ∀ t : Nat, bs[t]? = some true → Onward nx fr t
  base : ∀ t : Nat, stepT nx fr t → bs[t]? = some true
def ClosedB (nx : List (List Int)) (bs : List Bool) : Prop := ∀ s t : Nat, bs[s]? = some true → stepT nx s t → bs[t]? = some true
/-- the first loop, at letter j of fr's row -/
structure OnFirst (nx : List (List Int)) (n fr : Nat) (row : List Int) (bs : List Bool) (j : Nat) : Prop where
  len : bs.length = n
  isrow : nx[fr]? = some row
  sound : ∀ t : Nat, bs[t]? = some true → Onward nx fr t
  part : ∀ (i t : Nat), i < j → row[i]? = some (t : Int) → bs[t]? = some true
theorem OnFirst.init {nx : List (List Int)} {n fr : Nat} {row : List Int} (h : nx[fr]? = some row) : OnFirst nx n fr row (List.replicate n false) 0 :=
  ⟨by simp, h, fun t ht => by rw [List.getElem?_replicate] at ht; split at ht <;> simp at ht, fun i t hi => absurd hi (by omega)⟩
theorem OnFirst.skip {nx : List (List Int)} {n fr j : Nat} {row : List Int} {bs : List Bool} {t : Int} (h : OnFirst nx n fr row bs j) (ht : row[j]? = some t) (hn : t < 0) : OnFirst nx n fr row bs (j + 1) :=
  ⟨h.len, h.isrow, h.sound, fun i u hi hu => by
    by_cases hij : i < j
    · exact h.part i u hij hu
    · have : i = j := by omega
      subst this
      rw [ht] at hu
      injection hu with hu
      omega⟩
theorem OnFirst.set {nx : List (List Int)} {n fr j t : Nat} {row : List Int} {bs : List Bool} (h : OnFirst nx n fr row bs j) (ht : row[j]? = some (t : Int)) (hn : t < n) : OnFirst nx n fr row (bs.set t true) (j + 1) := by
  have hlt : t < bs.length := by rw [h.len]; exact hn
  refine ⟨by rw [List.length_set]; exact h.len, h.isrow, fun x hx => ?_, fun i u hi hu => ?_⟩
  · rcases (set_true_iff hlt).1 hx with rfl | hx
    · exact ⟨x, ⟨row, h.isrow, List.mem_of_getElem? ht⟩, Reach.refl _ _⟩
    · exact h.sound x hx
  · by_cases hij : i < j
    · exact set_true_of (h.part i u hij hu)
    · have : i = j := by omega
      subst this
      rw [ht] at hu
      have : t = u := by injection hu with hu; omega
      subst this
      exact (set_true_iff hlt).2 (.inl rfl)
theorem OnFirst.fin {nx : List (List Int)} {n fr : Nat} {row : List Int} {bs : List Bool} (h : OnFirst nx n fr row bs row.length) : OnBase nx n fr bs := by
  refine ⟨h.len, h.sound, ?_⟩
  rintro t ⟨r, hr, hm⟩
  rw [h.isrow] at hr
  injection hr with hr
  subst hr
  obtain ⟨i, hi, hie⟩ := List.getElem_of_mem hm
  exact h.part i t hi (by rw [List.getElem?_eq_getElem hi, hie])
/-- at the head of round m -/
def OnOut (nx : List (List Int)) (n fr : Nat) (bs : List Bool) (m : Nat) : Prop := OnBase nx n fr bs ∧ (ClosedB nx bs ∨ m + 1 ≤ trues bs)
theorem OnOut.init {nx : List (List Int)} {n fr : Nat} {bs : List Bool} (h : OnBase nx n fr bs) : OnOut nx n fr bs 0 := by
  refine ⟨h, ?_⟩
  by_cases h0 : trues bs = 0
  · refine .inl fun s t hs => ?_
    have := List.count_pos_iff.2 (List.mem_of_getElem? hs)
    have h1 : trues bs = bs.count true := rfl
    omega
  · exact .inr (by omega)
theorem OnOut.fin {nx : List (List Int)} {n fr : Nat} {bs : List Bool} (h : OnOut nx n fr bs n) (t : Nat) : bs[t]? = some true ↔ Onward nx fr t := by
  have hc : ClosedB nx bs := by
    rcases h.2 with h2 | h2
    · exact h2
    · have := trues_le bs
      rw [h.1.len] at this
      omega
  refine ⟨h.1.sound t, ?_⟩
  rintro ⟨y, h1, h2⟩
  exact h2 (fun t => bs[t]? = some true) (h.1.base y h1) fun x z hx hxz => hc x z hx hxz
/-- inside a round that began with bs0: rows before i are done, row i up to j -/
structure OnIn (nx : List (List Int)) (n fr : Nat) (bs0 bs : List Bool) (i j : Nat) : Prop where
  base : OnBase nx n fr bs
  mono : ∀ t : Nat, bs0[t]? = some true → bs[t]? = some true
  prog : bs = bs0 ∨ trues bs0 < trues bs
  stay : ClosedB nx bs0 → bs = bs0
  done : ∀ s t : Nat, s < i → bs0[s]? = some true → stepT nx s t → bs[t]? = some true
  part : ∀ (row : List Int) (j' t : Nat), nx[i]? = some row → j' < j → bs0[i]? = some true → row[j']? = some (t : Int) → bs[t]? = some true
theorem OnIn.init {nx : List (List Int)} {n fr : Nat} {bs : List Bool} (h : OnBase nx n fr bs) : OnIn nx n fr bs bs 0 0 :=
  ⟨h, fun _ h => h, .inl rfl, fun _ => rfl, fun s t hs => absurd hs (by omega), fun _ _ _ _ hj => absurd hj (by omega)⟩
theorem OnIn.skip {nx : List (List Int)} {n fr i j : Nat} {bs0 bs : List Bool} {row : List Int} {t : Int} (h : OnIn nx n fr bs0 bs i j) (hr : nx[i]? = some row) (ht : row[j]? = some t) (hh : bs[i]? = some false ∨ t < 0) : OnIn nx n fr bs0 bs i (j + 1) :=
  ⟨h.base, h.mono, h.prog, h.stay, h.done, fun row' j' u hr' hj hb hu => by
    by_cases hij : j' < j
    · exact h.part row' j' u hr' hij hb hu
    · have : j' = j := by omega
      subst this
      rw [hr] at hr'
      injection hr' with hr'
      subst hr'
      rw [ht] at hu
      rcases hh with hh | hh
      · rw [h.mono i hb] at hh; cases hh
      · injection hu with hu; omega⟩
theorem OnIn.set {nx : List (List Int)} {n fr i j t : Nat} {bs0 bs : List Bool} {row : List Int} (h : OnIn nx n fr bs0 bs i j) (hr : nx[i]? = some row) (ht : row[j]? = some (t : Int)) (hi : bs[i]? = some true) (hn : t < n) : OnIn nx n fr bs0 (bs.set t true) i (j + 1) := by
  have hlt : t < bs.length := by rw [h.base.len]; exact hn
  have hstep : stepT nx i t := ⟨row, hr, List.mem_of_getElem? ht⟩
  refine ⟨⟨by rw [List.length_set]; exact h.base.len, fun x hx => ?_, fun x hx => set_true_of (h.base.base x hx)⟩, fun x hx => set_true_of (h.mono x hx), ?_, fun hc => ?_, fun s u hs hb hst => set_true_of (h.done s u hs hb hst), fun row' j' u hr' hj hb hu => ?_⟩
  · rcases (set_true_iff hlt).1 hx with rfl | hx
    · obtain ⟨y, h1, h2⟩ := h.base.sound i hi
      exact ⟨y, h1, h2.step hstep⟩
    · exact h.base.sound x hx
  · obtain ⟨b, hb⟩ : ∃ b, bs[t]? = some b := ⟨_, List.getElem?_eq_getElem hlt⟩
    cases b with
    | true => rw [set_true_self hb]; exact h.prog
    | false =>
      have := trues_set hb
      rcases h.prog with h1 | h1
      · subst h1; exact .inr (by omega)
      · exact .inr (by omega)
  · have h0 := h.stay hc
    subst h0
    exact set_true_self (hc i t hi hstep)
  · by_cases hij : j' < j
    · exact set_true_of (h.part row' j' u hr' hij hb hu)
    · have : j' = j := by omega
      subst this
      rw [hr] at hr'
      injection hr' with hr'
      subst hr'
      rw [ht] at hu
      have : t = u := by injection hu with hu; omega
      subst this
      exact (set_true_iff hlt).2 (.inl rfl)
theorem OnIn.row {nx : List (List Int)} {n fr i : Nat} {bs0 bs : List Bool} {row : List Int} (h : OnIn nx n fr bs0 bs i row.length) (hr : nx[i]? = some row) : OnIn nx n fr bs0 bs (i + 1) 0 := by
  refine ⟨h.base, h.mono, h.prog, h.stay, fun s t hs hb hst => ?_, fun _ _ _ _ hj => absurd hj (by omega)⟩
  by_cases hsi : s < i
  · exact h.done s t hsi hb hst
  · have : s = i := by omega
    subst this
    obtain ⟨r, hr', hm⟩ := hst
    rw [hr] at hr'
    injection hr' with hr'
    subst hr'
    obtain ⟨j, hj, hje⟩ := List.getElem_of_mem hm
    exact h.part row j t hr hj hb (by rw [List.getElem?_eq_getElem hj, hje])
theorem OnIn.fin {nx : List (List Int)} {n fr m : Nat} {bs0 bs : List Bool} (hrows : nx.length ≤ n) (h : OnIn nx n fr bs0 bs n 0) (ho : OnOut nx n fr bs0 m) : OnOut nx n fr bs (m + 1) := by
  refine ⟨h.base, ?_⟩
  rcases h.prog with h1 | h1
  · subst h1
    refine .inl fun s t hs hst => h.done s t ?_ hs hst
    have := (List.getElem?_eq_some_iff.1 hs).1
    rw [h.base.len] at this
    exact this
  · rcases ho.2 with h2 | h2
    · have := h.stay h2
      subst this
      omega
    · exact .inr (by omega)
end Go.Proofs.Ytallglnmeeahiaa

/- The program's 'found': the states that are reached from Start. -/
namespace Go.Proofs.Ytallglnmeeahiaa
set_option linter.unusedVariables false
set_option linter.unusedSimpArgs false
open Go.ChangeShapes Go.WideShapes Go.ChangeAt Go.RowKit
attribute [local go_sem] ext_cell ext_frozen ext_lt ext_lt1 ext_lt2 ext_lt3 ltn2 ltn3 ltn13 lts1 lts2 lts3

theorem flatB_at {bs : List Bool} {t : Nat} {b : Bool} (h : bs[t]? = some b) : (bs.flatMap cB)[t]? = some (.bool b) := by
  have := flat_at cB_len h 0 _ rfl
  simpa using this
theorem flatI_atF {xs : List Int} {t : Nat} {x : Int} (h : xs[t]? = some x) : (xs.flatMap cI)[t]? = some (.int .i64 x) := by
  have := flat_at cI_len h 0 _ rfl
  simpa using this
theorem flatB_set (bs : List Bool) (t : Nat) (b : Bool) : (bs.flatMap cB).set t (.bool b) = (bs.set t b).flatMap cB := by
  induction bs generalizing t with
  | nil => simp
  | cons x bs ih =>
    cases t with
    | zero => rfl
    | succ t =>
      have := ih t
      simp only [List.set_cons_succ, List.flatMap_cons, cB, List.cons_append, List.nil_append] at this ⊢
      rw [this]

theorem BfsOut_nonempty {nx : List (List Int)} {n st : Nat} {bs : List Bool} {q : List Int} (hb : BfsOut nx n st bs q) : 1 ≤ trues bs ∧ trues bs ≤ n := by
  refine ⟨?_, hb.len ▸ trues_le bs⟩
  have := List.mem_of_getElem? hb.start
  exact List.count_pos_iff.2 this

end Go.Proofs.Ytallglnmeeahiaa

/- The reference's 'l13Onward': the states that are reached from a state by one letter or more. -/
namespace Go.Proofs.Ytallglnmeeahiaa
set_option linter.unusedVariables false
set_option linter.unusedSimpArgs false
open Go.ChangeShapes Go.WideShapes Go.ChangeAt Go.RowKit
attribute [local go_sem] ext_cell ext_frozen ext_lt ext_lt1 ext_lt2 ext_lt3 ltn2 ltn3 ltn13 lts1 lts2 lts3

set_option maxHeartbeats 4000000 in
set_option maxRecDepth 100000 in
theorem l13Onward_any (v : Value) (a : Au) (fr : Nat) (w : World) (hv : AuV 0 w.heap.size w v a) (hok : auOk a = true) (hfr : fr < a.accept.length) :
    Calls Try.prog 46 #[v, .int .i64 (fr : Int)] w fun e w' => ∃ v' bs, e = .returned v' ∧ Own w.heap.size w'.heap.size w' 4 cB 1 v' bs ∧ Below w.heap.size w w' ∧ bs.length = a.accept.length ∧ ∀ t : Nat, bs[t]? = some true ↔ Onward a.next fr t := by
  obtain ⟨⟨hn1, hn2⟩, ⟨hs1, hs2⟩, hnl, hrok⟩ := auOk_iff.1 hok
  obtain ⟨st, accept, next⟩ := a
  simp only at *
  obtain ⟨ac, nx, rfl, ⟨A1, c1, rfl, hl1, hm1, -⟩, us, ⟨A2, c2, rfl, hl2, hm2, hx2⟩, hul, hrows⟩ := hv
  simp only at *
  rw [hul] at hl2 ⊢
  have HU := Lib.hid hul
  have HNL := Lib.hid hnl
  have hnlt : next.length ≤ 12 := by omega
  have HN2 := Lib.hid (Nat.le_of_eq hnl)
  have HOK := Lib.hid hrok
  clear hul hnl hok hrok
  unfold maxLen at hm1 hm2
  have HX2 := Lib.hid hx2
  have HR := Lib.hid hrows
  clear hx2 hrows
  -- one row: its header's place and its numbers
  have hget : ∀ i, i < accept.length → ∃ (row : List Int) (b2 o2 : Nat) (A3 : Option Addr) (c3 : Nat), next[i]? = some row ∧ A2 = some ⟨b2, o2, none⟩ ∧ b2 < w.heap.size ∧ w.cell? ⟨b2, o2 + i, none⟩ = some (.slice A3 row.length c3) ∧
      row.length = 9 ∧ ∀ j x, row[j]? = some x → (∃ b3 o3, A3 = some ⟨b3, o3, none⟩ ∧ b3 < w.heap.size ∧ w.cell? ⟨b3, o3 + j, none⟩ = some (.int .i64 x)) ∧ -1 ≤ x ∧ x ≤ (accept.length : Int) - 1 := by
    intro i hi
    have hin : i < next.length := by have := HNL.out; omega
    have hxi : next[i]? = some next[i] := List.getElem?_eq_getElem hin
    obtain ⟨u, hu⟩ : ∃ u, us[i]? = some u := ⟨_, List.getElem?_eq_getElem (by have := HU.out; omega)⟩
    obtain ⟨b2, o2, hA, -, hb2, hc2⟩ := HX2.out i u hu
    have hvi := HR.out i u _ hu hxi
    have hrk := rowOk_iff.1 (HOK.out _ (List.getElem_mem hin))
    obtain ⟨A3, c3, rfl, hl3, hm3, hx3⟩ := hvi
    refine ⟨_, b2, o2, A3, c3, hxi, hA, hb2, ?_, hrk.2, fun j x hx => ⟨?_, hrk.1 x (List.mem_of_getElem? hx)⟩⟩
    · have := hc2 0 _ rfl
      simpa using this
    · obtain ⟨b3, o3, hA3, -, hb3, hc3⟩ := hx3 j x hx
      refine ⟨b3, o3, hA3, hb3, ?_⟩
      have := hc3 0 _ rfl
      simpa using this
  have HG := Lib.hid hget
  clear hget
  go_enter Try.func46, Try.ntmps46
  go_wp2_with (at_make; refine wpList_makeE (P := Try.prog) cB false elBool rfl rfl rfl _ _ rfl (w.heap.size + 1) accept.length _ (by rfl) (by rfl) rfl (by omega) (by unfold maxLen; omega) (by simp) ?_; intro w1 hrow1 hbel1
               have b0 := (Blk.new w _ _ w.heap.size rfl).below hbel1 (by simp)
               have hb1 : Below w.heap.size w w1 := ((Below.refl _ _).alloc (Nat.le_refl _) _).trans (hbel1.mono (by simp))
               simp only [World.size_alloc] at hrow1 ⊢
               have HRW1 := Lib.hid hrow1
               clear hbel1 hrow1)
  obtain ⟨row, b2, o2, A3, c3, hxi, rfl, hb2, hcu, h9, helem⟩ := HG.out fr hfr
  have HXI := Lib.hid hxi
  have H9 := Lib.hid h9
  have HE := Lib.hid helem
  have hr9 : row.length ≤ 9 ∧ 9 ≤ row.length := by omega
  have HB0 := Lib.hid b0
  clear hxi h9 helem b0
  go_loopw [6] (fun kk wr => ∃ (j : Nat) (bs : List Bool), j ≤ 9 ∧ kk = .int .i64 j ∧ OnFirst next accept.length fr row bs j ∧
      wr.ownsRow (w.heap.size + 1) 4 1 (.slice (some ⟨w.heap.size + 1, 0, none⟩) accept.length accept.length) accept.length (bs.flatMap cB) ∧
      Below w.heap.size w wr ∧ Blk wr w.heap.size 27 #[.int .i64 st, .slice A1 accept.length c1, .slice (some ⟨b2, o2, none⟩) next.length c2]) (fun kk _ => 9 - (intOf kk).toNat)
  case atStart => exact ⟨0, _, Nat.zero_le _, rfl, OnFirst.init HXI.out, HRW1.out, hb1, HB0.out⟩
  case round =>
    clear hb1
    obtain ⟨j, bs, hj, rfl, hof, hrow, hbel, hblk⟩ := hrel
    have hsz1 : w.heap.size + 1 < wr.heap.size := (hrow.lt (w.heap.size + 1) rfl).2
    have hzw : w.heap.size < wr.heap.size := by omega
    have hb2w : b2 < wr.heap.size := by omega
    have d1 : wr.cell? ⟨w.heap.size, 2, none⟩ = some (.slice (some ⟨b2, o2, none⟩) next.length c2) := hblk.cell 2
    have d2 := (hbel.cell (p := ⟨b2, o2 + fr, none⟩) hb2).trans hcu
    have hfrn : fr < next.length := by have := HNL.out; omega
    by_cases hlt : j < 9
    · have hxj : row[j]? = some row[j] := List.getElem?_eq_getElem (by omega)
      generalize row[j] = t at hxj
      obtain ⟨⟨b3, o3, rfl, hb3, hc3⟩, ht1, ht2⟩ := HE.out j t hxj
      have d3 := (hbel.cell (p := ⟨b3, o3 + j, none⟩) hb3).trans hc3
      by_cases ht0 : t < 0
      · have hof2 := hof.skip hxj ht0
        have HRW := Lib.hid hrow
        have HB := Lib.hid hblk
        clear hrow hblk hxj hof
        go_wp2_with fail
        go_roundw
        case rel => exact ⟨j + 1, bs, by omega, by go_num, hof2, HRW.out, hbel, HB.out⟩
        case measure => simp [intOf]; omega
      · obtain ⟨t, rfl⟩ := Int.eq_ofNat_of_zero_le (show 0 ≤ t by omega)
        have htn : t < accept.length := by omega
        obtain ⟨b, hb⟩ : ∃ b, bs[t]? = some b := ⟨_, List.getElem?_eq_getElem (by rw [hof.len]; exact htn)⟩
        have d6 := World.ownsRow.cellAt hrow t (by omega)
        rw [flatB_at hb] at d6
        have f6 := World.ownsRow.frozenAt hrow t
        have hof2 := hof.set hxj htn
        have hrow2 := (World.ownsRow.stored hrow t (.bool true)).1
        rw [flatB_set] at hrow2
        have HRW := Lib.hid hrow2
        have HB := Lib.hid (hblk.far (p := ⟨w.heap.size + 1, t, none⟩) (by simp) (.bool true))
        have hbel2 := hbel.setCell (p := ⟨w.heap.size + 1, t, none⟩) (Nat.le_succ _) (.bool true)
        clear hrow hrow2 hblk hxj hof hb
        go_wp2_with fail
        go_roundw
        case rel => exact ⟨j + 1, _, by omega, by go_num, hof2, HRW.out, hbel2, HB.out⟩
        case measure => simp [intOf]; omega
    · obtain rfl : j = 9 := by omega
      rw [← H9.out] at hof
      have hout := OnOut.init hof.fin
      have HRW := Lib.hid hrow
      have HB := Lib.hid hblk
      have d0 : wr.cell? ⟨w.heap.size, 1, none⟩ = some (.slice A1 accept.length c1) := hblk.cell 1
      clear hrow hblk hof d1 d2
      go_wp2_with fail
      go_loopw [7] (fun mm w' => ∃ (m : Nat) (bs : List Bool), m ≤ accept.length ∧ mm = .int .i64 m ∧ OnOut next accept.length fr bs m ∧ w'.ownsRow (w.heap.size + 1) 4 1 (.slice (some ⟨w.heap.size + 1, 0, none⟩) accept.length accept.length) accept.length (bs.flatMap cB) ∧
          Below w.heap.size w w' ∧ Blk w' w.heap.size 27 #[.int .i64 st, .slice A1 accept.length c1, .slice (some ⟨b2, o2, none⟩) next.length c2]) (fun mm _ => accept.length - (intOf mm).toNat)
      case atStart => exact ⟨0, bs, Nat.zero_le _, rfl, hout, HRW.out, hbel, HB.out⟩
      case round =>
        clear hout hbel HRW HB d0 hsz1 hzw hb2w
        obtain ⟨m, bs, hm, rfl, hout, hrow, hbel, hblk⟩ := hrel
        have d0 : wr.cell? ⟨w.heap.size, 1, none⟩ = some (.slice A1 accept.length c1) := hblk.cell 1
        by_cases hltm : m < accept.length
        · have HRW := Lib.hid hrow
          have HB := Lib.hid hblk
          have hin0 := OnIn.init hout.1
          clear hrow hblk
          go_wp2_with fail
          go_loopw [8] (fun ss w' => ∃ (i : Nat) (bs1 : List Bool), i ≤ accept.length ∧ ss = .int .i64 i ∧ OnIn next accept.length fr bs bs1 i 0 ∧ w'.ownsRow (w.heap.size + 1) 4 1 (.slice (some ⟨w.heap.size + 1, 0, none⟩) accept.length accept.length) accept.length (bs1.flatMap cB) ∧
          Below w.heap.size w w' ∧ Blk w' w.heap.size 27 #[.int .i64 st, .slice A1 accept.length c1, .slice (some ⟨b2, o2, none⟩) next.length c2]) (fun ss _ => accept.length - (intOf ss).toNat)
          case atStart => exact ⟨0, bs, Nat.zero_le _, rfl, hin0, HRW.out, hbel, HB.out⟩
          case round =>
            clear hin0 hbel HRW HB d0
            obtain ⟨i, bs1, hi, rfl, hin, hrow, hbel, hblk⟩ := hrel
            have d0 : wr.cell? ⟨w.heap.size, 1, none⟩ = some (.slice A1 accept.length c1) := hblk.cell 1
            by_cases hlti : i < accept.length
            · obtain ⟨rowi, b2', o2', A3', c3', hxi', hA', hb2', hcu', h9', helem'⟩ := HG.out i hlti
              have hae : b2 = b2' ∧ o2 = o2' := by injection hA' with h1; injection h1 with h1 h2; exact ⟨h1, h2⟩
              obtain ⟨rfl, rfl⟩ := hae
              have HXI' := Lib.hid hxi'
              have H9' := Lib.hid h9'
              have HE' := Lib.hid helem'
              have hr9' : rowi.length ≤ 9 ∧ 9 ≤ rowi.length := by omega
              have HRW := Lib.hid hrow
              have HB := Lib.hid hblk
              clear hrow hblk hxi' h9' helem' hA'
              go_wp2_with fail
              go_loopw [9] (fun kk w' => ∃ (j : Nat) (bs2 : List Bool), j ≤ 9 ∧ kk = .int .i64 j ∧ OnIn next accept.length fr bs bs2 i j ∧ w'.ownsRow (w.heap.size + 1) 4 1 (.slice (some ⟨w.heap.size + 1, 0, none⟩) accept.length accept.length) accept.length (bs2.flatMap cB) ∧
          Below w.heap.size w w' ∧ Blk w' w.heap.size 27 #[.int .i64 st, .slice A1 accept.length c1, .slice (some ⟨b2, o2, none⟩) next.length c2]) (fun kk _ => 9 - (intOf kk).toNat)
              case atStart => exact ⟨0, bs1, Nat.zero_le _, rfl, hin, HRW.out, hbel, HB.out⟩
              case round =>
                clear hin hbel HRW HB d0
                obtain ⟨j, bs2, hj, rfl, hin, hrow, hbel, hblk⟩ := hrel
                have hsz1 : w.heap.size + 1 < wr.heap.size := (hrow.lt (w.heap.size + 1) rfl).2
                have hzw : w.heap.size < wr.heap.size := by omega
                have hb2w : b2 < wr.heap.size := by omega
                have d1 : wr.cell? ⟨w.heap.size, 2, none⟩ = some (.slice (some ⟨b2, o2, none⟩) next.length c2) := hblk.cell 2
                have d2 := (hbel.cell (p := ⟨b2, o2 + i, none⟩) hb2).trans hcu'
                have hin2 : i < next.length := by have := HNL.out; omega
                by_cases hlt : j < 9
                · have hxj : rowi[j]? = some rowi[j] := List.getElem?_eq_getElem (by omega)
                  generalize rowi[j] = t at hxj
                  obtain ⟨⟨b3, o3, rfl, hb3, hc3⟩, ht1, ht2⟩ := HE'.out j t hxj
                  have d3 := (hbel.cell (p := ⟨b3, o3 + j, none⟩) hb3).trans hc3
                  obtain ⟨bi, hbi⟩ : ∃ b, bs2[i]? = some b := ⟨_, List.getElem?_eq_getElem (by rw [hin.base.len]; exact hlti)⟩
                  have d5 := World.ownsRow.cellAt hrow i (by omega)
                  rw [flatB_at hbi] at d5
                  by_cases hskip : bi = false ∨ t < 0
                  · have hin3 := hin.skip HXI'.out hxj (by rcases hskip with h | h; exact .inl (by rw [hbi, h]); exact .inr h)
                    have HRW := Lib.hid hrow
                    have HB := Lib.hid hblk
                    clear hrow hblk hxj hin hbi
                    cases bi with
                    | false =>
                      clear hskip
                      go_wp2_with fail
                      go_roundw
                      case rel => exact ⟨j + 1, bs2, by omega, by go_num, hin3, HRW.out, hbel, HB.out⟩
                      case measure => simp [intOf]; omega
                    | true =>
                      have ht0 : t < 0 := by rcases hskip with h | h; cases h; exact h
                      have ht0' : decide (t ≥ 0) = false := by simp; omega
                      clear hskip
                      go_wp2_with fail
                      go_roundw
                      case rel => exact ⟨j + 1, bs2, by omega, by go_num, hin3, HRW.out, hbel, HB.out⟩
                      case measure => simp [intOf]; omega
                  · obtain rfl : bi = true := by cases bi <;> simp_all
                    have ht0 : ¬ t < 0 := fun h => hskip (.inr h)
                    clear hskip
                    obtain ⟨t, rfl⟩ := Int.eq_ofNat_of_zero_le (show 0 ≤ t by omega)
                    have htn : t < accept.length := by omega
                    obtain ⟨b, hb⟩ : ∃ b, bs2[t]? = some b := ⟨_, List.getElem?_eq_getElem (by rw [hin.base.len]; exact htn)⟩
                    have d6 := World.ownsRow.cellAt hrow t (by omega)
                    rw [flatB_at hb] at d6
                    have f6 := World.ownsRow.frozenAt hrow t
                    have hin3 := hin.set HXI'.out hxj hbi htn
                    have hrow2 := (World.ownsRow.stored hrow t (.bool true)).1
                    rw [flatB_set] at hrow2
                    have HRW := Lib.hid hrow2
                    have HB := Lib.hid (hblk.far (p := ⟨w.heap.size + 1, t, none⟩) (by simp) (.bool true))
                    have hbel2 := hbel.setCell (p := ⟨w.heap.size + 1, t, none⟩) (Nat.le_succ _) (.bool true)
                    clear hrow hrow2 hblk hxj hin hb hbi
                    go_wp2_with fail
                    go_roundw
                    case rel => exact ⟨j + 1, _, by omega, by go_num, hin3, HRW.out, hbel2, HB.out⟩
                    case measure => simp [intOf]; omega
                · obtain rfl : j = 9 := by omega
                  rw [← H9'.out] at hin
                  have hin3 := hin.row HXI'.out
                  have HRW := Lib.hid hrow
                  have HB := Lib.hid hblk
                  clear hrow hblk hin d1 d2
                  go_wp2_with fail
                  go_roundw
                  case rel => exact ⟨i + 1, bs2, by omega, by go_num, hin3, HRW.out, hbel, HB.out⟩
                  case measure => simp [intOf]; omega
            · obtain rfl : i = accept.length := by omega
              have hout2 := hin.fin HN2.out hout
              have HRW := Lib.hid hrow
              have HB := Lib.hid hblk
              clear hrow hblk hin hout
              go_wp2_with fail
              go_roundw
              case rel => exact ⟨m + 1, bs1, by omega, by go_num, hout2, HRW.out, hbel, HB.out⟩
              case measure => simp [intOf]; omega
        · obtain rfl : m = accept.length := by omega
          have hfin := hout.fin
          have HF := Lib.hid hfin
          have HL := Lib.hid hout.1.len
          have HRW := Lib.hid hrow
          clear hrow hblk hout hfin
          go_wp2_with fail
          go_ret
          exact ⟨_, bs, rfl, (Own.of_row HRW.out HL.out rfl).mono (Nat.le_succ _) (Nat.le_refl _), hbel, HL.out, HF.out⟩
end Go.Proofs.Ytallglnmeeahiaa

/- StateReaches, the program's and the reference's: both tell whether a state is reached from a state. -/
namespace Go.Proofs.Ytallglnmeeahiaa
set_option linter.unusedVariables false
set_option linter.unusedSimpArgs false
open Go.ChangeShapes Go.WideShapes Go.ChangeAt Go.RowKit
attribute [local go_sem] ext_cell ext_frozen ext_lt ext_lt1 ext_lt2 ext_lt3 ltn2 ltn3 ltn13 lts1 lts2 lts3

/-- the automaton is valid, s and t are states of it, and t is reached from s -/
def ReachP (a : Au) (s t : Int) : Prop := auOk a = true ∧ (0 ≤ s ∧ s ≤ (a.accept.length : Int) - 1) ∧ (0 ≤ t ∧ t ≤ (a.accept.length : Int) - 1) ∧ Reach a.next s.toNat t.toNat


end Go.Proofs.Ytallglnmeeahiaa

/- HasLoop, the program's and the reference's: both tell whether a state comes back to itself by one letter or more. -/
namespace Go.Proofs.Ytallglnmeeahiaa
set_option linter.unusedVariables false
set_option linter.unusedSimpArgs false
open Go.ChangeShapes Go.WideShapes Go.ChangeAt Go.RowKit
attribute [local go_sem] ext_cell ext_frozen ext_lt ext_lt1 ext_lt2 ext_lt3 ltn2 ltn3 ltn13 lts1 lts2 lts3


def LoopP (a : Au) (s : Int) : Prop := auOk a = true ∧ (0 ≤ s ∧ s ≤ (a.accept.length : Int) - 1) ∧ Onward a.next s.toNat s.toNat


set_option maxHeartbeats 1000000 in
theorem specHasLoop (v : Value) (a : Au) (s : Int) (w : World) (hv : AuV 0 w.heap.size w v a) :
    Calls Try.prog 13 #[v, .int .i64 s] w fun e w' => ∃ b, e = .returned (.bool b) ∧ (b = true ↔ LoopP a s) ∧ Below w.heap.size w w' := by
  have hv0 := hv
  obtain ⟨A1, n1, c1, A2, n2, c2, rfl⟩ := hv.shape
  clear hv
  have hb0 : Below w.heap.size w (w.alloc (.cells #[.int .i64 a.start, .slice A1 n1 c1, .slice A2 n2 c2] 27)) := (Below.refl _ _).alloc (Nat.le_refl _) _
  by_cases g1 : (auOk a && wi s 0 ((a.accept.length : Int) - 1)) = true
  · have HG1 := Lib.hid g1
    clear g1
    have hg1 := HG1.out
    simp only [Bool.and_eq_true, wi_iff] at hg1
    obtain ⟨hoka, hs1, hs2⟩ := hg1
    have hp : LoopP a s ↔ Onward a.next s.toNat s.toNat := ⟨fun h => h.2.2, fun h => ⟨hoka, ⟨hs1, hs2⟩, h⟩⟩
    have HP := Lib.hid hp
    have HOK := Lib.hid hoka
    clear hp hoka
    obtain ⟨s, rfl⟩ := Int.eq_ofNat_of_zero_le hs1
    go_enter Try.func13, Try.ntmps13
    go_wp2_with fail
    refine (l22State_any _ a (s : Int) _ (hv0.keep hb0)).mono ?_
    rintro e w1 ⟨rfl, hb1⟩
    rw [HG1.out]
    have b0 := (Blk.new w _ _ w.heap.size rfl).keep hb1
    have x0 : w1.cell? ⟨w.heap.size, 0, none⟩ = some _ := b0.cell 0
    have x1 : w1.cell? ⟨w.heap.size, 1, none⟩ = some _ := b0.cell 1
    have x2 : w1.cell? ⟨w.heap.size, 2, none⟩ = some _ := b0.cell 2
    have hb4 := below_trans hb0 hb1
    clear hb1 b0
    go_wp2_with fail
    refine (l13Onward_any _ a s _ (hv0.keep hb4) HOK.out (by omega)).mono ?_
    rintro e w3 ⟨v2, bs, rfl, ho, hb5, hbl, hbr⟩
    obtain ⟨b, hb⟩ : ∃ b, bs[s]? = some b := ⟨_, List.getElem?_eq_getElem (by rw [hbl]; omega)⟩
    obtain ⟨A3, c3, rfl, hl3, hm3, hx3⟩ := ho.sl cB_len
    obtain ⟨b3, o3, rfl, -, -, hc3⟩ := hx3 s b hb
    have d0 := hc3 0 _ rfl
    simp only [Nat.mul_one, Nat.add_zero] at d0
    have hbt : b = true ↔ Onward a.next s s := by
      have h1 := hbr s
      rw [hb] at h1
      rw [← h1]
      simp
    have HBT := Lib.hid hbt
    have htl : s < bs.length := by omega
    unfold maxLen at hm3
    clear hbt hbl hbr hb hc3 hx3 ho x0 x1 x2
    go_wp2_with fail
    go_ret
    exact ⟨b, rfl, by rw [HP.out]; simpa using HBT.out, hb4.trans (hb5.mono hb4.size)⟩
  · have hn : ¬ LoopP a s := by
      rintro ⟨h1, h2, _⟩
      apply g1
      simp only [Bool.and_eq_true, wi_iff]
      exact ⟨h1, h2⟩
    simp only [Bool.not_eq_true] at g1
    have HG := Lib.hid g1
    have HN := Lib.hid hn
    clear g1 hn
    go_enter Try.func13, Try.ntmps13
    go_wp2_with fail
    refine (l22State_any _ a s _ (hv0.keep hb0)).mono ?_
    rintro e w1 ⟨rfl, hb1⟩
    rw [HG.out]
    go_wp2_with fail
    go_ret
    exact ⟨false, rfl, by simpa using HN.out, below_trans hb0 hb1⟩
end Go.Proofs.Ytallglnmeeahiaa

/- The law of pumping, plainly: no rounds, one round, and a state that its own loops lead back to. -/
namespace Go.Proofs.Ytallglnmeeahiaa
set_option linter.unusedVariables false
set_option linter.unusedSimpArgs false
open Go.ChangeShapes Go.WideShapes Go.ChangeAt Go.RowKit

theorem mem_metP_self {f : Int → Nat → Int} {u : Int × Int} {r : List (Int × Int)} {k : Nat} (h : ¬ (nxP f u k).2 < 0) : nxP f u k ∈ metP f u r k := by
  unfold metP
  split
  · rename_i hc
    rcases hc with hc | hc
    · exact absurd hc h
    · exact hc
  · simp
theorem mem_rowP {f : Int → Nat → Int} {u : Int × Int} {r : List (Int × Int)} : ∀ {L k : Nat}, k < L → ¬ (nxP f u k).2 < 0 → nxP f u k ∈ rowP f u r L
  | L + 1, k, hk, h => by
    rw [rowP]
    rcases Nat.lt_or_ge k L with hl | hl
    · exact (metP_pre f u _ L).subset (mem_rowP hl h)
    · obtain rfl : k = L := by omega
      exact mem_metP_self h
theorem imgP_mono (f : Int → Nat → Int) (L : Nat) (s : Int × Int) (i : Nat) : ∀ j, imgP f L s i <+: imgP f L s (i + j)
  | 0 => List.prefix_refl _
  | j + 1 => (imgP_mono f L s i j).trans (imgP_pre f L s (i + j))
theorem imgP_closed {f : Int → Nat → Int} {L K : Nat} {s u : Int × Int} (hK : (imgP f L s K).length < K) (hu : u ∈ s :: imgP f L s K) {k : Nat} (hk : k < L) (h : ¬ (nxP f u k).2 < 0) : nxP f u k ∈ imgP f L s K := by
  obtain ⟨i, hi, hie⟩ := List.getElem_of_mem hu
  rw [List.length_cons] at hi
  have hiu : (s :: imgP f L s K)[i]? = some u := by rw [List.getElem?_eq_getElem (by simpa using hi), hie]
  obtain ⟨j, hj⟩ : ∃ j, K = i + 1 + j := ⟨K - (i + 1), by omega⟩
  rcases Nat.lt_or_ge (imgP f L s i).length i with hl | hl
  · have h1 := imgP_still hl (1 + j)
    rw [← Nat.add_assoc, ← hj] at h1
    rw [h1] at hi
    omega
  · have hp : (s :: imgP f L s i) <+: (s :: imgP f L s K) := by
      rw [List.cons_prefix_cons]
      refine ⟨rfl, ?_⟩
      rw [hj, Nat.add_assoc]
      exact imgP_mono f L s i (1 + j)
    have h2 : (s :: imgP f L s i)[i]? = some u := by
      obtain ⟨t, ht⟩ := hp
      rw [← ht, List.getElem?_append_left (by simp; omega)] at hiu
      exact hiu
    have h3 := imgP_succ h2
    have h4 : nxP f u k ∈ imgP f L s (i + 1) := by rw [h3]; exact mem_rowP hk h
    rw [hj]
    exact (imgP_mono f L s (i + 1) j).subset h4
theorem loop_self {a : Au} {q : Int} (h : LoopP a q) : q ∈ loopL a q q := by
  obtain ⟨hok, ⟨h0, h1⟩, y, hy, hr⟩ := h
  have ha := auOk_iff.1 hok
  rw [loopL, if_pos (stB_iff.2 ⟨⟨h0, by omega⟩, ⟨h0, by omega⟩, hok⟩), imgA, (ascL_spec _).2, mem_outP]
  have hlen : (imgEnd a q q).length < (a.accept.length + 1) * a.accept.length + 1 := Nat.lt_succ_of_le (good_len (imgP_good (mvP_bd hok) 9 (q, q) _))
  have hcl : ∀ (x z : Nat), ((x : Int), (x : Int)) ∈ (q, q) :: imgEnd a q q → stepT a.next x z → ((z : Int), (z : Int)) ∈ imgEnd a q q := by
    rintro x z hx ⟨row, hrow, hz⟩
    obtain ⟨k, hk, hkz⟩ := List.getElem_of_mem hz
    have hro := ha.2.2.2 row (List.mem_of_getElem? hrow)
    have hl9 : row.length = 9 := by
      simp only [rowOk, Bool.and_eq_true, beq_iff_eq] at hro
      exact hro.2
    have hmv : mvP a (x : Int) k = (z : Int) := by
      unfold mvP
      have hgd : a.next.getD x [] = row := by rw [List.getD_eq_getElem?_getD, hrow]; rfl
      rw [if_neg (by omega), Int.toNat_natCast, mv, hgd, List.getD_eq_getElem?_getD, List.getElem?_eq_getElem hk, Option.getD_some, hkz]
    have hnx : nxP (mvP a) ((x : Int), (x : Int)) k = ((z : Int), (z : Int)) := by rw [nxP, hmv]
    have := imgP_closed (f := mvP a) (L := 9) hlen hx (k := k) (by omega) (by rw [hnx]; simp)
    rw [hnx] at this
    exact this
  have hq : ((q.toNat : Nat) : Int) = q := by omega
  have hfin := hr (fun t => ((t : Int), (t : Int)) ∈ imgEnd a q q) (hcl q.toNat y (by rw [hq]; simp) hy) (fun x z hx hxz => hcl x z (List.mem_cons_of_mem _ hx) hxz)
  rw [hq] at hfin
  exact hfin
theorem pumped_one (a : Au) (p q : Int) : pumpedL a p q 1 = loopL a p q := by
  unfold pumpedL loopL
  have h1 : pumpOk a p q 1 = stB a p q := by rw [pumpOk, wi_iff.2 ⟨by omega, by omega⟩, Bool.and_true]
  rw [h1]
  split
  · show ascL (imgAll a q [p]) = imgA a p q
    rw [show imgAll a q [p] = imgA a p q by simp [imgAll]]
    exact asc_uniq (ascL_spec _).1 (ascL_spec _).1 fun x => (ascL_spec _).2 x
  · rfl
theorem pumped_zero (a : Au) (p q : Int) : pumpedL a p q 0 = [] ∨ pumpedL a p q 0 = [p] := by
  unfold pumpedL
  split
  · exact .inr rfl
  · exact .inl rfl
end Go.Proofs.Ytallglnmeeahiaa

/- Whether a program's text can call itself: told by ranks along the calls. Over any program. -/
namespace Go.Proofs.Ytallglnmeeahiaa
set_option linter.unusedVariables false
set_option linter.unusedSimpArgs false
def leadsOf (P : Program) (f : FuncId) : List FuncId := (P.funcs[f]?).elim [] P.leadsTo
def rankOk (P : Program) (T : List (FuncId × Nat)) : Bool :=
  T.all fun q => T.lookup q.1 == some q.2 && (leadsOf P q.1).all fun h => match T.lookup h with | some r => decide (r < q.2) | none => false
def plainAll (P : Program) (T : List (FuncId × Nat)) : Bool :=
  T.all fun q => !((P.funcs[q.1]?).any fun fn => match fn.body with | some c => c.unfollowed | none => entryCalls fn)
theorem via_sub {P : Program} {p : FuncId → Prop} (hp : ∀ f, p f → ∀ h ∈ leadsOf P f, p h) : ∀ (n : Nat) (todo seen : List FuncId), (∀ f ∈ todo, p f) → (∀ f ∈ seen, p f) → ∀ g ∈ P.closureVia n todo seen, p g
  | 0, _, seen, _, hs, g, hg => hs g (by simpa [Program.closureVia] using hg)
  | _ + 1, [], seen, _, hs, g, hg => hs g (by simpa [Program.closureVia] using hg)
  | n + 1, f :: todo, seen, ht, hs, g, hg => by
    rw [Program.closureVia] at hg
    split at hg
    · exact via_sub hp n todo seen (fun x hx => ht x (List.mem_cons_of_mem _ hx)) hs g hg
    · refine via_sub hp n _ _ (fun x hx => ?_) (fun x hx => ?_) g hg
      · rcases List.mem_append.1 hx with h | h
        · exact hp f (ht f (List.mem_cons_self ..)) x h
        · exact ht x (List.mem_cons_of_mem _ h)
      · rcases List.mem_cons.1 hx with rfl | h
        · exact ht x (List.mem_cons_self ..)
        · exact hs x h
theorem closure_sub {P : Program} {p : FuncId → Prop} (hp : ∀ f, p f → ∀ h ∈ leadsOf P f, p h) {f : FuncId} (hf : p f) : ∀ g ∈ P.closure f, p g := by
  unfold Program.closure
  exact via_sub hp _ _ _ (by simpa using hf) (by simp)
theorem lookup_mem {T : List (FuncId × Nat)} {x : FuncId} {r : Nat} (h : T.lookup x = some r) : (x, r) ∈ T := by
  induction T with
  | nil => simp at h
  | cons q T ih =>
    obtain ⟨a, b⟩ := q
    rw [List.lookup_cons] at h
    split at h
    · rename_i hx
      have e1 : x = a := by simpa using hx
      have e2 : b = r := by simpa using h
      subst e1 e2
      exact List.mem_cons_self ..
    · exact List.mem_cons_of_mem _ (ih h)
theorem rank_step {P : Program} {T : List (FuncId × Nat)} (hT : rankOk P T = true) {f : FuncId} {r : Nat} (hf : T.lookup f = some r) {h : FuncId} (hh : h ∈ leadsOf P f) : ∃ s, T.lookup h = some s ∧ s < r := by
  have h1 := List.all_eq_true.1 hT _ (lookup_mem hf)
  simp only [Bool.and_eq_true] at h1
  have h2 := List.all_eq_true.1 h1.2 h hh
  cases hl : T.lookup h with
  | none => rw [hl] at h2; cases h2
  | some s => rw [hl] at h2; exact ⟨s, rfl, by simpa using h2⟩
theorem rank_closure {P : Program} {T : List (FuncId × Nat)} (hT : rankOk P T = true) {f : FuncId} {r : Nat} (hf : T.lookup f = some r) : ∀ g ∈ P.closure f, ∃ s, T.lookup g = some s ∧ s ≤ r :=
  closure_sub (p := fun g => ∃ s, T.lookup g = some s ∧ s ≤ r) (fun x ⟨s, hs, hr⟩ h hh => by
    obtain ⟨t, ht, hlt⟩ := rank_step hT hs hh
    exact ⟨t, ht, by omega⟩) ⟨r, hf, Nat.le_refl _⟩
theorem unfollowed_no {P : Program} {T : List (FuncId × Nat)} {f : FuncId} {r : Nat} (hT : rankOk P T = true) (hp : plainAll P T = true) (hf : T.lookup f = some r) : P.unfollowed f = false := by
  rw [Program.unfollowed, List.any_eq_false]
  intro g hg
  obtain ⟨s, hs, _⟩ := rank_closure hT hf g hg
  have := List.all_eq_true.1 hp _ (lookup_mem hs)
  exact Bool.eq_false_iff.1 (Eq.mp (Bool.not_eq_true' _) this)
theorem recurses_no {P : Program} {T : List (FuncId × Nat)} {f : FuncId} {r : Nat} (hT : rankOk P T = true) (hp : plainAll P T = true) (hf : T.lookup f = some r) : P.recurses f = false := by
  rw [Program.recurses, unfollowed_no hT hp hf, Bool.false_or, List.any_eq_false]
  intro g hg
  obtain ⟨s, hs, _⟩ := rank_closure hT hf g hg
  rw [Bool.not_eq_true, List.any_eq_false]
  intro h hh
  obtain ⟨t, ht, hlt⟩ := rank_step hT hs hh
  intro hc
  have hm : g ∈ P.closure h := by simpa using hc
  obtain ⟨u, hu, hle⟩ := rank_closure hT ht g hm
  rw [hs] at hu
  injection hu with e
  omega
theorem recurses_yes {P : Program} {f : FuncId} (g h : FuncId) (h1 : (P.closure f).contains g = true) (h2 : (leadsOf P g).contains h = true) (h3 : (P.closure h).contains g = true) : P.recurses f = true := by
  rw [Program.recurses, Bool.or_eq_true]
  refine .inr (List.any_eq_true.2 ⟨g, by simpa using h1, List.any_eq_true.2 ⟨h, by simpa [leadsOf] using h2, h3⟩⟩)
end Go.Proofs.Ytallglnmeeahiaa

/- Facts on this seat's program as a whole that every row asks for: told once. -/
namespace Go.Proofs.Ytallglnmeeahiaa
set_option linter.unusedVariables false
set_option linter.unusedSimpArgs false
theorem seat_mayEnter : Try.pinned.checked.prog.mayEnter = true := by kernel_rfl
theorem seat_lifts : Try.pinned.checked.prog.liftsFinal = false := by kernel_rfl
theorem seat_laidOut : laidOutB Try.pinned.checked.prog = true := by kernel_rfl
theorem seat_mapsRowed : mapsRowed Try.pinned.checked.prog = true := by kernel_rfl
end Go.Proofs.Ytallglnmeeahiaa

