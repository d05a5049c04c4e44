/- Parts of the proof, joined into one text: PumpM, PumpI, PumpS. -/
import Derived.Test.YtgdgelkeflihpaaPartBOEDKPDF
import Derived.Test.YtgdgelkeflihpaaPartPNIJPJGG
/- PumpedStates, plainly: rounds of images, as lists and as sets of bits. -/
namespace Go.Proofs.Ytgdgelkeflihpaa
set_option linter.unusedVariables false
set_option linter.unusedSimpArgs false
open Go.ChangeShapes Go.WideShapes Go.ChangeAt Go.RowKit
def imgAll (a : Au) (q : Int) (l : List Int) : List Int := l.flatMap fun s => imgA a s q
def pumpL (a : Au) (p q : Int) : Nat → List Int
  | 0 => [p]
  | k + 1 => ascL (imgAll a q (pumpL a p q k))
theorem imgAll_snoc {a : Au} {q : Int} {l : List Int} {i : Nat} {s : Int} (h : l[i]? = some s) : imgAll a q (l.take (i + 1)) = imgAll a q (l.take i) ++ imgA a s q := by
  rw [imgAll, take_snoc h, List.flatMap_append]; simp [imgAll]
theorem imgAll_mem {a : Au} (h : auOk a = true) {q x : Int} {l : List Int} (hx : x ∈ imgAll a q l) : -1 ≤ x ∧ x < (a.accept.length : Int) := by
  obtain ⟨s, _, h2⟩ := List.mem_flatMap.1 hx
  exact imgA_mem h h2
theorem imgAll_len {a : Au} (h : auOk a = true) (q : Int) (l : List Int) : (imgAll a q l).length ≤ l.length * 13 := by
  induction l with
  | nil => simp [imgAll]
  | cons s l ih =>
    have h2 := imgA_len h s q
    simp only [imgAll, List.flatMap_cons, List.length_append, List.length_cons] at ih ⊢
    omega
theorem pumpL_mem {a : Au} (h : auOk a = true) {p q : Int} (hp : -1 ≤ p ∧ p < (a.accept.length : Int)) : ∀ (k : Nat) (x : Int), x ∈ pumpL a p q k → -1 ≤ x ∧ x < (a.accept.length : Int)
  | 0, x, hx => by simp only [pumpL, List.mem_singleton] at hx; subst hx; exact hp
  | k + 1, x, hx => by rw [pumpL, (ascL_spec _).2] at hx; exact imgAll_mem h hx
theorem pumpL_asc (a : Au) (p q : Int) : ∀ k, (pumpL a p q k).Pairwise (· < ·)
  | 0 => by simp [pumpL]
  | k + 1 => (ascL_spec _).1
theorem pumpL_len {a : Au} (h : auOk a = true) {p q : Int} (hp : -1 ≤ p ∧ p < (a.accept.length : Int)) (k : Nat) : (pumpL a p q k).length ≤ 13 := by
  have h1 := asc_len (pumpL_asc a p q k) (pumpL_mem h hp k)
  have h2 := (auOk_iff.1 h).1.2
  omega
def pumpOk (a : Au) (p q n : Int) : Bool := stB a p q && wi n 0 12
def pumpedL (a : Au) (p q n : Int) : List Int := if pumpOk a p q n = true then pumpL a p q n.toNat else []
theorem pumpedL_len (a : Au) (p q n : Int) : (pumpedL a p q n).length ≤ 13 := by
  unfold pumpedL
  split
  · rename_i h
    rw [pumpOk, Bool.and_eq_true] at h
    have h2 := stB_iff.1 h.1
    exact pumpL_len h2.2.2 (by omega) _
  · simp

/-! ### As sets -/
structure BitsL (m : Nat) (l : List Int) : Prop where
  lt : m < 2 ^ 13
  iff : ∀ t : Nat, m.testBit t = true ↔ ((t : Int) - 1) ∈ l
def insN (m : Nat) (x : Int) : Nat := ins m (x + 1).toNat
def maskOf (l : List Int) : Nat := l.foldl insN 0
theorem maskOf_lt : ∀ (l : List Int) (m : Nat), m < 2 ^ 13 → (∀ x ∈ l, -1 ≤ x ∧ x < 12) → l.foldl insN m < 2 ^ 13
  | [], m, hm, _ => hm
  | x :: l, m, hm, h => maskOf_lt l _ (ins_lt hm (by have := h x (by simp); omega)) (fun y hy => h y (List.mem_cons_of_mem _ hy))
theorem maskOf_iff : ∀ (l : List Int) (m : Nat), (∀ x ∈ l, -1 ≤ x) → ∀ t : Nat, (l.foldl insN m).testBit t = true ↔ m.testBit t = true ∨ ((t : Int) - 1) ∈ l
  | [], m, _, t => by simp
  | x :: l, m, h, t => by
    have hx := h x (by simp)
    rw [List.foldl_cons, maskOf_iff l _ (fun y hy => h y (List.mem_cons_of_mem _ hy)), insN, ins_test, Bool.or_eq_true, decide_eq_true_eq, List.mem_cons]
    constructor
    · rintro ((h1 | h1) | h1)
      · exact .inl h1
      · exact .inr (.inl (by omega))
      · exact .inr (.inr h1)
    · rintro (h1 | h1 | h1)
      · exact .inl (.inl h1)
      · exact .inl (.inr (by omega))
      · exact .inr h1
theorem BitsL.of {l : List Int} (h : ∀ x ∈ l, -1 ≤ x ∧ x < 12) : BitsL (maskOf l) l :=
  ⟨maskOf_lt l 0 (by decide) h, fun t => by rw [maskOf, maskOf_iff l 0 (fun x hx => (h x hx).1)]; simp⟩
def maskF (a : Au) (q : Int) (i : Nat) : Nat := maskOf (imgA a ((i : Int) - 1) q)
theorem maskF_bits {a : Au} (h : auOk a = true) (q : Int) (i : Nat) : BitsL (maskF a q i) (imgA a ((i : Int) - 1) q) :=
  BitsL.of fun x hx => by have h1 := imgA_mem h hx; have h2 := (auOk_iff.1 h).1.2; omega
def orTo (F : Nat → Nat) (s i : Nat) : Nat := (mem i s).foldl (fun m t => m ||| F t) 0
theorem orTo_no {F : Nat → Nat} {s i : Nat} (h : s.testBit i = false) : orTo F s (i + 1) = orTo F s i := by rw [orTo, mem_no h]; rfl
theorem orTo_yes {F : Nat → Nat} {s i : Nat} (h : s.testBit i = true) : orTo F s (i + 1) = orTo F s i ||| F i := by rw [orTo, mem_yes h, List.foldl_append]; rfl
theorem orTo_lt {F : Nat → Nat} {n : Nat} (hF : ∀ i, F i < 2 ^ n) (s i : Nat) : orTo F s i < 2 ^ n := foldl_inv (P := fun m => m < 2 ^ n) (fun m t hm => Nat.or_lt_two_pow hm (hF t)) _ _ (Nat.two_pow_pos _)
theorem orTo_iff (F : Nat → Nat) (s : Nat) : ∀ (i t : Nat), (orTo F s i).testBit t = true ↔ ∃ j, j < i ∧ s.testBit j = true ∧ (F j).testBit t = true
  | 0, t => by simp [orTo, mem_zero]
  | i + 1, t => by
    cases hs : s.testBit i with
    | false =>
      rw [orTo_no hs, orTo_iff F s i t]
      constructor
      · rintro ⟨j, h1, h2, h3⟩; exact ⟨j, by omega, h2, h3⟩
      · rintro ⟨j, h1, h2, h3⟩
        rcases Nat.lt_or_ge j i with h | h
        · exact ⟨j, h, h2, h3⟩
        · obtain rfl : j = i := by omega
          rw [hs] at h2; cases h2
    | true =>
      rw [orTo_yes hs, Nat.testBit_or, Bool.or_eq_true, orTo_iff F s i t]
      constructor
      · rintro (⟨j, h1, h2, h3⟩ | h)
        · exact ⟨j, by omega, h2, h3⟩
        · exact ⟨i, by omega, hs, h⟩
      · rintro ⟨j, h1, h2, h3⟩
        rcases Nat.lt_or_ge j i with h | h
        · exact .inl ⟨j, h, h2, h3⟩
        · obtain rfl : j = i := by omega
          exact .inr h3
theorem BitsL.step {a : Au} (h : auOk a = true) {q : Int} {s : Nat} {l : List Int} (hs : BitsL s l) (hl : ∀ x ∈ l, -1 ≤ x ∧ x < (a.accept.length : Int)) : BitsL (orTo (maskF a q) s (a.accept.length + 1)) (ascL (imgAll a q l)) :=
  ⟨orTo_lt (fun i => (maskF_bits h q i).lt) _ _, fun t => by
    rw [orTo_iff, (ascL_spec _).2, imgAll, List.mem_flatMap]
    constructor
    · rintro ⟨j, h1, h2, h3⟩
      exact ⟨_, (hs.iff j).1 h2, ((maskF_bits h q j).iff t).1 h3⟩
    · rintro ⟨x, h1, h2⟩
      have hx := hl x h1
      have e : (((x + 1).toNat : Nat) : Int) - 1 = x := by omega
      refine ⟨(x + 1).toNat, by omega, (hs.iff _).2 (by rw [e]; exact h1), ((maskF_bits h q _).iff t).2 (by rw [e]; exact h2)⟩⟩
def setK (a : Au) (p q : Int) : Nat → Nat
  | 0 => bit (p + 1).toNat
  | k + 1 => orTo (maskF a q) (setK a p q k) (a.accept.length + 1)
theorem setK_bits {a : Au} (h : auOk a = true) {p q : Int} (hp : -1 ≤ p ∧ p < (a.accept.length : Int)) : ∀ k, BitsL (setK a p q k) (pumpL a p q k)
  | 0 => ⟨bit_lt (by have := (auOk_iff.1 h).1.2; omega), fun t => by simp only [setK, pumpL, bit_test, decide_eq_true_eq, List.mem_singleton]; omega⟩
  | k + 1 => (setK_bits h hp k).step h (pumpL_mem h hp k)
theorem BitsL.asc {m : Nat} {l : List Int} (h : BitsL m l) (hl : l.Pairwise (· < ·)) (hb : ∀ x ∈ l, -1 ≤ x) : (memI 30 m).map (· - 1) = l := by
  refine asc_uniq ?_ hl fun x => ?_
  · rw [List.pairwise_map]
    exact (memI_asc 30 m).imp fun h => by omega
  · rw [List.mem_map]
    constructor
    · rintro ⟨t, ht, rfl⟩
      obtain ⟨n, rfl, -, h2⟩ := mem_memI.1 ht
      exact (h.iff n).1 h2
    · intro hx
      have h1 := hb _ hx
      refine ⟨x + 1, mem_memI.2 ⟨(x + 1).toNat, by omega, ?_, ?_⟩, by omega⟩
      · rcases Nat.lt_or_ge (x + 1).toNat 30 with h2 | h2
        · exact h2
        · have h3 := (h.iff (x + 1).toNat).2 (by rw [show ((x + 1).toNat : Int) - 1 = x by omega]; exact hx)
          have h4 := Nat.testBit_lt_two_pow (i := (x + 1).toNat) (Nat.lt_of_lt_of_le h.lt (Nat.pow_le_pow_right (by omega) (by omega)))
          rw [h3] at h4; cases h4
      · exact (h.iff (x + 1).toNat).2 (by rw [show ((x + 1).toNat : Int) - 1 = x by omega]; exact hx)
theorem setK_asc {a : Au} (h : auOk a = true) {p q : Int} (hp : -1 ≤ p ∧ p < (a.accept.length : Int)) (k : Nat) : (memI 30 (setK a p q k)).map (· - 1) = pumpL a p q k :=
  (setK_bits h hp k).asc (pumpL_asc a p q k) fun x hx => (pumpL_mem h hp k x hx).1
end Go.Proofs.Ytgdgelkeflihpaa

/- The program's PumpedStates. -/
namespace Go.Proofs.Ytgdgelkeflihpaa
set_option linter.unusedVariables false
set_option linter.unusedSimpArgs false
open Go.ChangeShapes Go.WideShapes Go.ChangeAt Go.RowKit
attribute [local go_sem] ext_cell ext_frozen ext_lt ext_lt1 ext_lt2 ext_lt3 ltn2 ltn3 ltn13 lts1 lts2 lts3

set_option maxHeartbeats 2000000 in
set_option maxRecDepth 100000 in
theorem implPumpedStates (v : Value) (a : Au) (p q n : Int) (w : World) (hv : AuV 0 w.heap.size w v a) :
    Calls Try.prog 23 #[v, .int .i64 p, .int .i64 q, .int .i64 n] w fun e w' => ∃ v', e = .returned v' ∧ Own w.heap.size w'.heap.size w' 3 cI 1 v' (pumpedL a p q n) ∧ Below w.heap.size w w' := by
  have hv0 := hv
  obtain ⟨A1, n1, c1, A2, n2, c2, rfl⟩ := hv.shape
  clear hv
  have hb0 : Below w.heap.size w (w.alloc (.cells #[.int .i64 a.start, .slice A1 n1 c1, .slice A2 n2 c2] 29)) := (Below.refl _ _).alloc (Nat.le_refl _) _
  have hb1 : Below w.heap.size w ((w.alloc (.cells #[.int .i64 a.start, .slice A1 n1 c1, .slice A2 n2 c2] 29)).alloc (.cells #[.int .i64 p, .int .i64 q] 3)) := hb0.alloc (by simp) _
  have hst : SlE ((w.alloc (.cells #[.int .i64 a.start, .slice A1 n1 c1, .slice A2 n2 c2] 29)).alloc (.cells #[.int .i64 p, .int .i64 q] 3)) cI 1 (.slice (some ⟨w.heap.size + 1, 0, none⟩) 2 2) [p, q] := by
    have h := Own.of_row (xs := [p, q]) (E := cI) (World.ownsRow_lit (base := 0) (e := 3) (size := 1) (w.alloc (.cells #[.int .i64 a.start, .slice A1 n1 c1, .slice A2 n2 c2] 29)) #[.int .i64 p, .int .i64 q] 2 (Nat.zero_le _) (by decide) rfl) rfl rfl
    have h2 := h.sl cI_len
    simpa [SlE] using h2
  have hok := statesOk_any _ _ a [p, q] _ (hv0.keep hb1) hst
  simp only [List.all_cons, List.all_nil, Bool.and_true] at hok
  obtain ⟨R, hR⟩ : ∃ R, R = pumpedL a p q n := ⟨_, rfl⟩
  rw [← hR]
  have HR := Lib.hid hR
  have HOK := Lib.hid hok
  have HV := Lib.hid hv0
  have HWI := Lib.hid (fun W => within_any n 0 12 W)
  clear hok hst hR hv0
  by_cases g : stB a p q = true
  · have hg := stB_iff.1 g
    have HG := Lib.hid g
    cases hw : wi n 0 12 with
    | false =>
      have HF := Lib.hid (HR.out.trans (show pumpedL a p q n = [] from if_neg (by rw [pumpOk, hw]; simp)))
      rw [hw] at HWI
      clear g hg HR hw
      go_enter Try.func23, Try.ntmps23
      go_wp2_with fail
      refine HOK.out.mono ?_
      rintro e w1 ⟨rfl, hb2⟩
      rw [show (wi p 0 ((a.accept.length : Int) - 1) && wi q 0 ((a.accept.length : Int) - 1) && auOk a) = true from HG.out]
      have hb3 := below_trans hb1 hb2
      clear hb2
      go_wp2_with fail
      refine (HWI.out _).mono ?_
      rintro e w9 ⟨rfl, hw9⟩
      rw [hw9]
      clear hw9
      go_wp2_with fail
      go_ret
      rw [HF.out]
      exact ⟨_, rfl, Own.nil _ _ _ _ _ _, hb3⟩
    | true =>
      have hwi := wi_iff.1 hw
      obtain ⟨N, rfl⟩ := Int.eq_ofNat_of_zero_le hwi.1
      have hN12 : N ≤ 12 := by omega
      have HF := Lib.hid (HR.out.trans (show pumpedL a p q (N : Int) = pumpL a p q N from (if_pos (by rw [pumpOk, g, hw]; rfl)).trans (by simp)))
      rw [hw] at HWI
      have hgp : -1 ≤ p ∧ p < (a.accept.length : Int) := by omega
      have HI := Lib.hid (fun (s : Int) (W : World) (hW : Below w.heap.size w W) (hs : -1 ≤ s ∧ s < (a.accept.length : Int)) => images_any (H := Unit) _ a s q W (HV.out.keep hW) hg.2.2 hs hg.2.1)
      have HPM := Lib.hid (pumpL_mem hg.2.2 (q := q) hgp)
      have HPL := Lib.hid (pumpL_len hg.2.2 (q := q) hgp)
      have HIL := Lib.hid (imgAll_len hg.2.2 q)
      have HIA := Lib.hid (fun s => imgA_len hg.2.2 s q)
      clear g hg HR hw hwi hgp
      go_enter Try.func23, Try.ntmps23
      go_wp2_with fail
      refine HOK.out.mono ?_
      rintro e w1 ⟨rfl, hb2⟩
      rw [show (wi p 0 ((a.accept.length : Int) - 1) && wi q 0 ((a.accept.length : Int) - 1) && auOk a) = true from HG.out]
      have b0 := ((Blk.new w _ _ w.heap.size rfl).alloc _).keep hb2
      have x0 : w1.cell? ⟨w.heap.size, 0, none⟩ = some _ := b0.cell 0
      have x1 : w1.cell? ⟨w.heap.size, 1, none⟩ = some _ := b0.cell 1
      have x2 : w1.cell? ⟨w.heap.size, 2, none⟩ = some _ := b0.cell 2
      have hb3 := below_trans hb1 hb2
      have lb0 := b0.lt
      clear hb2 b0
      go_wp2_with fail
      refine (HWI.out _).mono ?_
      rintro e w9 ⟨rfl, hw9⟩
      rw [hw9]
      clear hw9
      go_wp2_with fail
      have HX := Lib.hid (And.intro x0 (And.intro x1 x2))
      have HB3 := Lib.hid hb3
      have hs3 := hb3.size
      have HL0 := Lib.hid (show Own w1.heap.size (w1.alloc (.cells #[.int .i64 p] 3)).heap.size (w1.alloc (.cells #[.int .i64 p] 3)) 3 cI 1 (.slice (some ⟨w1.heap.size, 0, none⟩) 1 1) (pumpL a p q 0) from
        Own.of_row (xs := [p]) (World.ownsRow_lit (base := w1.heap.size) (e := 3) (size := 1) w1 #[.int .i64 p] 1 (Nat.le_refl _) (by decide) rfl) rfl rfl)
      have HB4 := Lib.hid ((Below.refl w1.heap.size w1).alloc (Nat.le_refl _) (.cells #[.int .i64 p] 3))
      clear x0 x1 x2 hb3
      go_loopw [3, 9] (fun tt ll wr => ∃ k : Nat, k ≤ N ∧ tt = .int .i64 ((N : Int) - (k : Int)) ∧ Own w1.heap.size wr.heap.size wr 3 cI 1 ll (pumpL a p q k) ∧ Below w1.heap.size w1 wr) (fun tt _ _ => (intOf tt).toNat)
      case atStart => exact ⟨0, by omega, by simp, HL0.out, HB4.out⟩
      case round =>
        clear HL0 HB4
        obtain ⟨k, hk, rfl, hown, hbel⟩ := hrel
        obtain ⟨A5, c5, rfl, hl5, hm5, hC5⟩ := SlE.form ((hown.sl cI_len).all (Nat.le_refl _))
        have hkl := HPL.out k
        have HPK := Lib.hid (HPM.out k)
        obtain ⟨L, hL⟩ : ∃ L, L = pumpL a p q k := ⟨_, rfl⟩
        have HLS := Lib.hid (show ascL (imgAll a q L) = pumpL a p q (k + 1) by rw [hL]; rfl)
        rw [← hL] at hown hl5 hC5 hkl HPK ⊢
        have HLE := Lib.hid hL
        have HBEL := Lib.hid hbel
        have hsr := hbel.size
        obtain ⟨wo, hwo⟩ : ∃ wo : World, wo = wr := ⟨_, rfl⟩
        rw [← hwo] at HBEL hown hC5 hsr ⊢
        have HOWN := Lib.hid hown
        have HC5 := Lib.hid hC5
        clear hown hbel hwo hC5 hL
        by_cases hlt : k < N
        · have hpos : (0 : Int) < (N : Int) - (k : Int) := by omega
          go_wp2_with fail
          have HRN := Lib.hid (show (wo.alloc (.cells #[] 3)).ownsRow wo.heap.size 3 1 (.slice (some ⟨wo.heap.size, 0, none⟩) 0 0) (imgAll a q (L.take 0)).length ((imgAll a q (L.take 0)).flatMap cI) from
            World.ownsRow_lit (base := wo.heap.size) (e := 3) (size := 1) wo #[] 0 (Nat.le_refl _) (by decide) rfl)
          have HBN := Lib.hid ((Below.refl wo.heap.size wo).alloc (Nat.le_refl _) (.cells #[] 3))
          go_loopw [10, 33] (fun nn ii wr => ∃ i : Nat, i ≤ L.length ∧ ii = .int .i64 (i : Int) ∧ wr.ownsRow wo.heap.size 3 1 nn (imgAll a q (L.take i)).length ((imgAll a q (L.take i)).flatMap cI) ∧ Below wo.heap.size wo wr) (fun _ ii _ => L.length - (intOf ii).toNat)
          case atStart => exact ⟨0, Nat.zero_le _, rfl, HRN.out, HBN.out⟩
          case round =>
            clear HRN HBN
            obtain ⟨i, hi, rfl, hrow, hbel⟩ := hrel
            have hil := HIL.out (L.take i)
            have htl : (L.take i).length ≤ 13 := by rw [List.length_take]; omega
            have hbw := HB3.out.trans ((HBEL.out.mono hs3).trans (hbel.mono (Nat.le_trans hs3 hsr)))
            by_cases hli : i < L.length
            · have hxi : L[i]? = some L[i] := List.getElem?_eq_getElem hli
              have hxm := HPK.out _ (List.getElem_mem hli)
              generalize L[i] = s at hxi hxm
              obtain ⟨b5, o5, rfl, hb5, d5⟩ := HC5.out.int hxi
              have d5 := kcell hbel d5
              have hb5 := Nat.lt_of_lt_of_le hb5 hbel.size
              have hii : (i : Int) < (L.length : Int) := by omega
              have hW1 := (HBEL.out.trans (hbel.mono hsr))
              have x0 := kcell hW1 HX.out.1
              have x1 := kcell hW1 HX.out.2.1
              have x2 := kcell hW1 HX.out.2.2
              have lb := Nat.lt_of_lt_of_le lb0 hW1.size
              have HSN := Lib.hid (imgAll_snoc (a := a) (q := q) hxi)
              have HIM := Lib.hid (HI.out s wr hbw hxm)
              have hial := HIA.out s
              have HROW := Lib.hid hrow
              have HBL := Lib.hid hbel
              have hsb := hbel.size
              clear hrow hbel hxi hbw hW1
              generalize imgAll a q (L.take i) = M at *
              go_wp2_with fail
              refine HIM.out.mono ?_
              rintro e w5 ⟨v5, rfl, ho5, hb5'⟩
              have hsl5 := (ho5.sl cI_len).all (Nat.le_refl _)
              have hl5e : (imgA a s q).length ≤ 13 := hial
              have HSL5 := Lib.hid (show SlE w5 cI 1 v5 (imgA a s q) from hsl5)
              have HRO5 := Lib.hid (ownsRow_below HROW.out hb5' (Nat.le_refl _))
              have HB5 := Lib.hid (HBL.out.trans (hb5'.mono hsb))
              have hs5 := hb5'.size
              obtain ⟨A9, n9, c9, rfl⟩ := ho5.shape
              clear ho5 hsl5 hb5'
              generalize imgA a s q = I at *
              go_wp2_with (at_builtin; (refine wpList_appendL cI elInt cI_len cI_one rfl _ _ rfl wo.heap.size _ M I (by rfl) HRO5.out 0 _ _ (by rfl) HSL5.out (by omega) (by omega) (by omega) ?_); intro v6 w6 hrow6 hgr6 hat6)
              have hb6 := HB5.out.trans (own_below HRO5.out (by omega) hgr6)
              have hs6 := hb6.size
              clear hat6 hgr6
              go_roundw
              case rel => exact ⟨i + 1, by omega, by go_num, by rw [HSN.out]; exact hrow6, hb6⟩
              case measure => simp [intOf]; omega
            · obtain rfl : i = L.length := by omega
              rw [List.take_length] at hrow hil
              have hasc := ascending_any _ (imgAll a q L) wr (((Own.of_row (xs := imgAll a q L) hrow rfl rfl).sl cI_len).all (Nat.le_refl _)) (by omega)
              rw [HLS.out] at hasc
              have HAS := Lib.hid hasc
              have HBL := Lib.hid hbel
              have hsb := hbel.size
              have hsh : ∃ A6 n6 c6, u10 = .slice A6 n6 c6 := (Own.of_row (xs := imgAll a q L) hrow rfl rfl).shape
              obtain ⟨A6, n6, c6, rfl⟩ := hsh
              clear hrow hil hbel hasc hbw
              go_wp2_with fail
              refine HAS.out.mono ?_
              rintro e w7 ⟨v7, rfl, ho7, hb7⟩
              have HO7 := Lib.hid (ho7.mono (show w1.heap.size ≤ wr.heap.size by omega) (Nat.le_refl _))
              have HB7 := Lib.hid (HBEL.out.trans ((HBL.out.mono hsr).trans (hb7.mono (show w1.heap.size ≤ wr.heap.size by omega))))
              clear ho7 hb7
              go_wp2_with fail
              go_roundw
              case rel => exact ⟨k + 1, by omega, by congr 1; omega, HO7.out, HB7.out⟩
              case measure => simp [intOf]; omega
        · obtain rfl : k = N := by omega
          have hpos : ¬ (0 : Int) < (k : Int) - (k : Int) := by omega
          have HO := Lib.hid (HOWN.out.mono (lo' := w.heap.size) hs3 (Nat.le_refl _))
          have HB := Lib.hid (HB3.out.trans (HBEL.out.mono hs3))
          have HRE := Lib.hid (HF.out.trans HLE.out.symm)
          go_wp2_with fail
          go_ret
          rw [HRE.out]
          exact ⟨_, rfl, HO.out, HB.out⟩
  · have HF := Lib.hid (HR.out.trans (show pumpedL a p q n = [] from if_neg (by rw [pumpOk, show stB a p q = false by simpa using g]; simp)))
    have HG := Lib.hid (show stB a p q = false by simpa using g)
    clear g HR
    go_enter Try.func23, Try.ntmps23
    go_wp2_with fail
    refine HOK.out.mono ?_
    rintro e w1 ⟨rfl, hb2⟩
    rw [show (wi p 0 ((a.accept.length : Int) - 1) && wi q 0 ((a.accept.length : Int) - 1) && auOk a) = false from HG.out]
    have hb3 := below_trans hb1 hb2
    clear hb2
    go_wp2_with fail
    go_ret
    rw [HF.out]
    exact ⟨_, rfl, Own.nil _ _ _ _ _ _, hb3⟩
end Go.Proofs.Ytgdgelkeflihpaa

/- The reference's PumpedStates. -/
namespace Go.Proofs.Ytgdgelkeflihpaa
set_option linter.unusedVariables false
set_option linter.unusedSimpArgs false
open Go.ChangeShapes Go.WideShapes Go.ChangeAt Go.RowKit
attribute [local go_sem] ext_cell ext_frozen ext_lt ext_lt1 ext_lt2 ext_lt3 ltn2 ltn3 ltn13 lts1 lts2 lts3

theorem elN : ElemOk Try.prog 27 3 (.int .i64 0) 1 8 := ⟨Try.underlying27, by kernel_rfl, rfl, by omega⟩
theorem maskOf_to {l : List Int} {i : Nat} {x : Int} (h : l[i]? = some x) : (l.take (i + 1)).foldl insN 0 = insN ((l.take i).foldl insN 0) x := foldl_take h 0
set_option maxHeartbeats 4000000 in
set_option maxRecDepth 100000 in
theorem l22Pumped_any (v : Value) (a : Au) (p q : Int) (N : Nat) (w : World) (hv : AuV 0 w.heap.size w v a) (hok : auOk a = true) (hp : 0 ≤ p ∧ p < (a.accept.length : Int)) (hq : 0 ≤ q ∧ q < (a.accept.length : Int)) (hN : N ≤ 12) :
    Calls Try.prog 68 #[v, .int .i64 p, .int .i64 q, .int .i64 (N : Int)] w fun e w' => ∃ v', e = .returned v' ∧ Own w.heap.size w'.heap.size w' 3 cI 1 v' (pumpL a p q N) ∧ Below w.heap.size w w' := by
  have hv0 := hv
  obtain ⟨A1, c1, A2, c2, rfl, hl1, hm1, hl2, hm2, -⟩ := hv.form hok
  have hn12 := (auOk_iff.1 hok).1.2
  obtain ⟨RR, hRR⟩ : ∃ RR, RR = pumpL a p q N := ⟨_, rfl⟩
  rw [← hRR]
  have hgp : -1 ≤ p ∧ p < (a.accept.length : Int) := by omega
  have HRR := Lib.hid (hRR.trans (setK_asc hok (q := q) hgp N).symm)
  have HV := Lib.hid hv0
  have HI := Lib.hid (fun (s : Int) (W : World) (hW : Below w.heap.size w W) (hs : -1 ≤ s ∧ s < (a.accept.length : Int)) => l22Images_any _ a s q W (HV.out.keep hW) hok hs hq)
  have HMB := Lib.hid (fun i => (maskF_bits hok q i).lt)
  have HSB := Lib.hid (fun k => (setK_bits hok (q := q) hgp k).lt)
  have HOL := Lib.hid (fun s i => orTo_lt (n := 13) (fun j => (maskF_bits hok q j).lt) s i)
  have HIA := Lib.hid (fun s => imgA_len hok s q)
  have HIM := Lib.hid (fun (s x : Int) (hx : x ∈ imgA a s q) => imgA_mem hok hx)
  clear hv hv0 hok hRR hgp
  go_enter Try.func68, Try.ntmps68
  go_wp2_with fail
  obtain ⟨W0, hW0⟩ : ∃ W0, W0 = (w.alloc (.cells #[.int .i64 a.start, .slice A1 a.accept.length c1, .slice A2 a.accept.length c2] 29)) := ⟨_, rfl⟩
  have hb0 : Below w.heap.size w W0 := by rw [hW0]; exact (Below.refl _ _).alloc (Nat.le_refl _) _
  have hs0 : W0.heap.size = w.heap.size + 1 := by rw [hW0]; simp
  have x0 : W0.cell? ⟨w.heap.size, 0, none⟩ = some (.int .i64 a.start) := by rw [hW0]; simp
  have x1 : W0.cell? ⟨w.heap.size, 1, none⟩ = some (.slice A1 a.accept.length c1) := by rw [hW0]; simp
  have x2 : W0.cell? ⟨w.heap.size, 2, none⟩ = some (.slice A2 a.accept.length c2) := by rw [hW0]; simp
  rw [← hW0]
  have HB0 := Lib.hid hb0
  have HX := Lib.hid (And.intro x0 (And.intro x1 x2))
  have HR0 := Lib.hid (show (W0.alloc (.cells #[] 3)).ownsRow W0.heap.size 3 1 (.slice (some ⟨W0.heap.size, 0, none⟩) 0 0) ((List.range 0).map (maskF a q)).length (((List.range 0).map (maskF a q)).flatMap cN) from
    World.ownsRow_lit (base := W0.heap.size) (e := 3) (size := 1) W0 #[] 0 (Nat.le_refl _) (by decide) rfl)
  have HBA := Lib.hid ((Below.refl W0.heap.size W0).alloc (Nat.le_refl _) (.cells #[] 3))
  have hsW : w.heap.size ≤ W0.heap.size := by omega
  have hlW : w.heap.size < W0.heap.size := by omega
  rw [← hs0]
  clear hW0 hb0 x0 x1 x2 hs0
  try go_wp2_with fail
  go_loopw [9, 10] (fun mm ss wr => ∃ i : Nat, i ≤ a.accept.length + 1 ∧ ss = .int .i64 ((i : Int) - 1) ∧ wr.ownsRow W0.heap.size 3 1 mm ((List.range i).map (maskF a q)).length (((List.range i).map (maskF a q)).flatMap cN) ∧ Below W0.heap.size W0 wr ∧ (N = 0 → i = 0)) (fun _ ss _ => (a.accept.length + 1) - (intOf ss + 1).toNat)
  case atStart => exact ⟨0, by omega, rfl, HR0.out, HBA.out, fun _ => rfl⟩
  case round =>
    clear HR0 HBA
    obtain ⟨i, hi, rfl, hrow, hbel, hNi⟩ := hrel
    have x0 := kcell hbel HX.out.1
    have x1 := kcell hbel HX.out.2.1
    have x2 := kcell hbel HX.out.2.2
    have hsr := hbel.size
    have lb : w.heap.size < wr.heap.size := by omega
    have HROW := Lib.hid hrow
    have HBEL := Lib.hid hbel
    have hbw := HB0.out.trans (hbel.mono hsW)
    have HBW0 := Lib.hid hbw
    obtain ⟨wo, hwo⟩ : ∃ wo : World, wo = wr := ⟨_, rfl⟩
    rw [← hwo] at HROW HBEL HBW0 x0 x1 x2 hsr lb ⊢
    clear hrow hbel hwo hbw
    by_cases hlt : i < a.accept.length + 1 ∧ 0 < N
    · have hc1 : (i : Int) - 1 < (a.accept.length : Int) := by omega
      have hc2 : (0 : Int) < (N : Int) := by omega
      have HIC := Lib.hid (HI.out ((i : Int) - 1) wo HBW0.out (by omega))
      have HIX := Lib.hid (HIM.out ((i : Int) - 1))
      have hia := HIA.out ((i : Int) - 1)
      have HMF := Lib.hid (show maskF a q i = (imgA a ((i : Int) - 1) q).foldl insN 0 from rfl)
      rw [show ascL (outP q (imgEnd a ((i : Int) - 1) q)) = imgA a ((i : Int) - 1) q from rfl] at HIC
      have HRS := Lib.hid (show (List.range (i + 1)).map (maskF a q) = (List.range i).map (maskF a q) ++ [maskF a q i] by rw [List.range_succ, List.map_append]; rfl)
      have hml : ((List.range i).map (maskF a q)).length ≤ 13 := by simp; omega
      clear hNi
      generalize imgA a ((i : Int) - 1) q = I at *
      have hml2 := HMB.out i
      generalize (List.range i).map (maskF a q) = ML at *
      go_wp2_with fail
      refine HIC.out.mono ?_
      rintro e w5 ⟨v5, rfl, ho5, hb5⟩
      obtain ⟨A5, c5, rfl, hl5, hm5, hC5⟩ := SlE.form ((ho5.sl cI_len).all (Nat.le_refl _))
      have HC5 := Lib.hid hC5
      have HB5 := Lib.hid hb5
      have hs5 := hb5.size
      clear ho5 hb5 hC5 x0 x1 x2
      go_wp2_with fail
      go_loopw [12, 13] (fun mm jj wr => ∃ j : Nat, j ≤ I.length ∧ jj = .int .i64 (j : Int) ∧ mm = .int .i64 (((I.take j).foldl insN 0 : Nat) : Int) ∧ wr = w5) (fun _ jj _ => I.length - (intOf jj).toNat)
      case atStart => exact ⟨0, Nat.zero_le _, rfl, rfl, rfl⟩
      case round =>
        obtain ⟨j, hj, rfl, rfl, hw⟩ := hrel
        rw [hw]
        clear hw
        have hmlt : (I.take j).foldl insN 0 < 2 ^ 13 := maskOf_lt _ _ (by decide) (fun x hx => by have := HIX.out x (List.mem_of_mem_take hx); omega)
        by_cases hlj : j < I.length
        · have hxi : I[j]? = some I[j] := List.getElem?_eq_getElem hlj
          have hxm := HIX.out _ (List.getElem_mem hlj)
          generalize I[j] = x at hxi hxm
          obtain ⟨b5, o5, rfl, hb5, d5⟩ := HC5.out.int hxi
          have hjj : (j : Int) < (I.length : Int) := by omega
          obtain ⟨s, hs⟩ : ∃ s : Nat, x = (s : Int) - 1 := ⟨(x + 1).toNat, by omega⟩
          subst hs
          have hst := maskOf_to hxi
          rw [insN, show ((s : Int) - 1 + 1).toNat = s by omega] at hst
          have HST := Lib.hid hst
          clear hxi hst
          generalize (I.take j).foldl insN 0 = m at *
          have b1 := shl_bit (s := s) (by omega)
          have b2 := or_ins (m := m) (s := s) (by omega) (by omega)
          go_wp2_with fail
          go_roundw
          case rel => exact ⟨j + 1, by omega, by go_num, by rw [HST.out], by trivial⟩
          case measure => simp [intOf]; omega
        · obtain rfl : j = I.length := by omega
          rw [List.take_length, ← HMF.out]
          clear hmlt
          have hrow5 := ownsRow_below HROW.out HB5.out (Nat.le_refl _)
          have HR5 := Lib.hid hrow5
          have HBL5 := Lib.hid (HBEL.out.trans (HB5.out.mono hsr))
          clear hrow5
          generalize maskF a q i = mf at *
          go_wp2_with (at_builtin; (refine wpList_append1 cN elN rfl _ _ rfl W0.heap.size _ ML mf _ 1 _ (by rfl) HR5.out (by rfl) rfl rfl rfl (cN_one _) (by omega) (by omega) (by omega) ?_); intro v8 w8 hrow8 hb8 hat8 hgr8)
          clear hat8 hgr8
          go_roundw
          case rel => exact ⟨i + 1, by omega, by congr 1; omega, by rw [HRS.out]; exact hrow8, HBL5.out.trans hb8, fun h => by omega⟩
          case measure => simp [intOf]; omega
    · -- all masks are there
      have hgd : ¬ ((i : Int) - 1 < (a.accept.length : Int)) ∨ ((i : Int) - 1 < (a.accept.length : Int) ∧ ¬ ((0 : Int) < (N : Int))) := by omega
      have HML := Lib.hid (show N = 0 ∨ i = a.accept.length + 1 by
        rcases Nat.eq_zero_or_pos N with h | h
        · exact .inl h
        · exact .inr (by omega))
      have hmi : ((List.range i).map (maskF a q)).length = i := by simp
      have HMA := Lib.hid (fun (j : Nat) (h : j < i) => show ((List.range i).map (maskF a q))[j]? = some (maskF a q j) by simp [h])
      have hiN : i ≤ 13 := by omega
      obtain ⟨ML, hML⟩ : ∃ ML, ML = (List.range i).map (maskF a q) := ⟨_, rfl⟩
      rw [← hML] at HROW HMA hmi
      have hsh : ∃ A9 c9, u9 = .slice A9 i c9 ∧ SlC wo.heap.size wo cN 1 A9 ML := by
        have ho := Own.of_row (xs := ML) HROW.out rfl rfl
        obtain ⟨A, c, h1, _, _, h2⟩ := ho.form cN_len
        exact ⟨A, c, by rw [h1, hmi], h2⟩
      obtain ⟨A9, c9, rfl, hC9⟩ := hsh
      have HC9 := Lib.hid hC9
      obtain ⟨s0, hs0⟩ : ∃ s0 : Nat, p = (s0 : Int) := ⟨p.toNat, by omega⟩
      have b1 := shl_bit (s := s0 + 1) (by omega)
      have HS0 := Lib.hid (show bit (s0 + 1) = setK a p q 0 by rw [setK, hs0, show ((s0 : Int) + 1).toNat = s0 + 1 by omega])
      subst hs0
      have hpe : ((s0 : Int) + 1).toNat = s0 + 1 := by omega
      clear hlt hNi hML hmi hC9 HROW
      have hstep : True := trivial
      rcases hgd with hgd | ⟨hgd0, hgd⟩
      all_goals
        go_wp2_with fail
        rw [HS0.out]
        go_loopw [14, 15] (fun ss kk wr => ∃ k : Nat, k ≤ N ∧ kk = .int .i64 (k : Int) ∧ ss = .int .i64 ((setK a (s0 : Int) q k : Nat) : Int) ∧ wr = wo) (fun _ kk _ => N - (intOf kk).toNat)
        case atStart => exact ⟨0, Nat.zero_le _, rfl, rfl, rfl⟩
        case round =>
          obtain ⟨k, hk, rfl, rfl, hw⟩ := hrel
          rw [hw]
          clear hw
          by_cases hlk : k < N
          · have hkk : (k : Int) < (N : Int) := by omega
            have HSN := Lib.hid (show orTo (maskF a q) (setK a (s0 : Int) q k) i = setK a (s0 : Int) q (k + 1) by
              rcases HML.out with h | h
              · omega
              · rw [h]; rfl)
            have hsb := HSB.out k
            generalize setK a (s0 : Int) q k = S at *
            go_wp2_with fail
            go_loopw [16, 17] (fun mm jj wr => ∃ j : Nat, j ≤ i ∧ jj = .int .i64 (j : Int) ∧ mm = .int .i64 ((orTo (maskF a q) S j : Nat) : Int) ∧ wr = wo) (fun _ jj _ => i - (intOf jj).toNat)
            case atStart => exact ⟨0, Nat.zero_le _, rfl, rfl, rfl⟩
            case round =>
              obtain ⟨j, hj, rfl, rfl, hw⟩ := hrel
              rw [hw]
              clear hw
              by_cases hlj : j < i
              · have hjj : (j : Int) < (i : Int) := by omega
                have hob := HOL.out S j
                have hmb := HMB.out j
                obtain ⟨b9, o9, rfl, hb9, d9⟩ := HC9.out.nat (HMA.out j hlj)
                cases hb : S.testBit j with
                | false =>
                  have e3 := bit_off (m := S) (s := j) (by omega) (by omega) hb
                  have HM := Lib.hid (orTo_no (F := maskF a q) hb)
                  clear hb
                  go_wp2_with fail
                  go_roundw
                  case rel => exact ⟨j + 1, by omega, by go_num, by rw [HM.out], by trivial⟩
                  case measure => simp [intOf]; omega
                | true =>
                  have e3 := bit_on (m := S) (s := j) (by omega) (by omega) hb
                  have HM := Lib.hid (orTo_yes (F := maskF a q) hb)
                  have e4 := i64_or_nat (orTo (maskF a q) S j) (maskF a q j) (by omega) (by omega)
                  clear hb
                  generalize orTo (maskF a q) S j = M at *
                  generalize maskF a q j = F at *
                  go_wp2_with fail
                  go_roundw
                  case rel => exact ⟨j + 1, by omega, by go_num, by rw [HM.out], by trivial⟩
                  case measure => simp [intOf]; omega
              · obtain rfl : j = i := by omega
                rw [HSN.out]
                go_wp2_with fail
                go_roundw
                case rel => exact ⟨k + 1, by omega, by go_num, by trivial, by trivial⟩
                case measure => simp [intOf]; omega
          · obtain rfl : k = N := by omega
            have hsb := HSB.out k
            have hset := l4Set_any (setK a (s0 : Int) q k) wo (Nat.lt_of_lt_of_le hsb (Nat.pow_le_pow_right (by omega) (by omega)))
            have hml := mem_len 30 (setK a (s0 : Int) q k)
            have hmx : ∀ x ∈ memI 30 (setK a (s0 : Int) q k), 0 ≤ x ∧ x ≤ 30 := fun x hx => by
              obtain ⟨t, rfl, ht, _⟩ := mem_memI.1 hx
              omega
            have hml2 : (memI 30 (setK a (s0 : Int) q k)).length ≤ 30 := by rw [memI, List.length_map]; exact hml
            have HAS := Lib.hid HRR.out.symm
            clear HRR
            generalize memI 30 (setK a (s0 : Int) q k) = xs at *
            have HS := Lib.hid hset
            have HBW := HBW0
            have HMX := Lib.hid hmx
            clear hset hmx hml
            go_wp2_with fail
            refine HS.out.mono ?_
            rintro e w2 ⟨v2, rfl, ho2, hb2⟩
            have hrow2 := ho2.1
            have hsb := HBW.out.size
            have hb2w := below_trans HBW.out hb2
            have hls2 := hb2.size
            have hshp : ∃ A c, v2 = .slice A xs.length c := by
              rcases hrow2.2 with ⟨h1, h2⟩ | ⟨g, cap, cur, h1, _⟩
              · exact ⟨none, 0, by rw [h1, h2]⟩
              · exact ⟨_, _, h1⟩
            obtain ⟨A9, c9, rfl⟩ := hshp
            have HR2 := Lib.hid (show w2.ownsRow w.heap.size 3 1 (.slice A9 xs.length c9) xs.length ((lessL xs 0).flatMap cI) from by
              have h := ownsRow_mono hrow2 hsb
              simpa [lessL] using h)
            have HB2 := Lib.hid hb2w
            clear ho2 hrow2 hb2 hb2w
            go_wp2_with fail
            go_loopw [19] (fun ii wr => ∃ i : Nat, i ≤ xs.length ∧ ii = .int .i64 (i : Int) ∧ wr.ownsRow w.heap.size 3 1 (.slice A9 xs.length c9) xs.length ((lessL xs i).flatMap cI) ∧ Below w.heap.size w wr) (fun ii _ => xs.length - (intOf ii).toNat)
            case atStart => exact ⟨0, Nat.zero_le _, rfl, HR2.out, HB2.out⟩
            case round =>
              clear HR2 HB2
              obtain ⟨i, hi, rfl, hrow, hbel⟩ := hrel
              by_cases hlt2 : i < xs.length
              · have hxi : xs[i]? = some xs[i] := List.getElem?_eq_getElem hlt2
                have hxm := HMX.out _ (List.getElem_mem hlt2)
                generalize xs[i] = x at hxi hxm
                obtain ⟨g, hA⟩ : ∃ g, A9 = some ⟨g, 0, none⟩ := by
                  rcases hrow.2 with ⟨_, h2⟩ | ⟨g, cap, cur, h1, _⟩
                  · omega
                  · injection h1 with h1 _ _; exact ⟨g, h1⟩
                subst hA
                have hf := World.ownsRow.frozenAt hrow i
                have hc := World.ownsRow.cellAt hrow i (by omega)
                have hle := lessL_at hxi
                have hfl : ((lessL xs i).flatMap cI)[i]? = some (.int .i64 x) := by have := flat_at (E := cI) (k := 1) cI_len hle 0 _ rfl; simpa using this
                rw [hfl] at hc
                have hst := (World.ownsRow.stored hrow i (.int .i64 (x - 1))).1
                rw [flatI_set, lessL_set hxi] at hst
                have hlg := hrow.lt g rfl
                have hbs := hbel.setCell (p := ⟨g, i, none⟩) hlg.1 (.int .i64 (x - 1))
                have HST := Lib.hid hst
                have HBS := Lib.hid hbs
                have hii : (i : Int) < (xs.length : Int) := by omega
                have hgl := hlg.2
                clear hle hfl hst hbs hxi hrow hlg
                go_wp2_with fail
                go_roundw
                case rel => exact ⟨i + 1, by omega, by go_num, HST.out, HBS.out⟩
                case measure => simp [intOf]; omega
              · obtain rfl : i = xs.length := by omega
                have hfin : lessL xs xs.length = xs.map (· - 1) := by simp [lessL]
                rw [hfin] at hrow
                have hown := Own.of_row (xs := xs.map (· - 1)) hrow (by simp) rfl
                rw [HAS.out] at hown
                have HO := Lib.hid hown
                clear hrow hfin hown
                go_wp2_with fail
                go_ret
                exact ⟨_, rfl, HO.out, hbel⟩
set_option maxHeartbeats 1000000 in
theorem specPumpedStates (v : Value) (a : Au) (p q n : Int) (w : World) (hv : AuV 0 w.heap.size w v a) :
    Calls Try.prog 22 #[v, .int .i64 p, .int .i64 q, .int .i64 n] w fun e w' => ∃ v', e = .returned v' ∧ Own w.heap.size w'.heap.size w' 3 cI 1 v' (pumpedL a p q n) ∧ Below w.heap.size w w' := by
  have hv0 := hv
  obtain ⟨A1, n1, c1, A2, n2, c2, rfl⟩ := hv.shape
  clear hv
  have hb0 : Below w.heap.size w (w.alloc (.cells #[.int .i64 a.start, .slice A1 n1 c1, .slice A2 n2 c2] 29)) := (Below.refl _ _).alloc (Nat.le_refl _) _
  obtain ⟨R, hR⟩ : ∃ R, R = pumpedL a p q n := ⟨_, rfl⟩
  rw [← hR]
  have HR := Lib.hid hR
  have HW := Lib.hid (fun W => l1In_any n 0 12 W)
  have HV := Lib.hid hv0
  have HST := Lib.hid (fun (s : Int) (W : World) (hW : Below w.heap.size w W) => l22State_any _ a s W (HV.out.keep hW))
  clear hR hv0
  cases g1 : (auOk a && wi p 0 ((a.accept.length : Int) - 1)) with
  | false =>
    have HF := Lib.hid (HR.out.trans (show pumpedL a p q n = [] from if_neg (by intro h; have h2 := stB_iff.1 (show stB a p q = true by rw [pumpOk, Bool.and_eq_true] at h; exact h.1); rw [h2.2.2, Bool.true_and, wi_iff.2 ⟨h2.1.1, by omega⟩] at g1; cases g1)))
    have HG1 := Lib.hid g1
    clear g1 HR
    go_enter Try.func22, Try.ntmps22
    go_wp2_with fail
    refine (HST.out p _ hb0).mono ?_
    rintro e w1 ⟨rfl, hb1⟩
    rw [HG1.out]
    have hb2 := below_trans hb0 hb1
    clear hb1
    go_wp2_with fail
    go_ret
    rw [HF.out]
    exact ⟨_, rfl, lit_nilL hb2.size, hb2.alloc hb2.size _⟩
  | true =>
    have HG1 := Lib.hid g1
    cases g2 : (auOk a && wi q 0 ((a.accept.length : Int) - 1)) with
    | false =>
      have HF := Lib.hid (HR.out.trans (show pumpedL a p q n = [] from if_neg (by intro h; have h2 := stB_iff.1 (show stB a p q = true by rw [pumpOk, Bool.and_eq_true] at h; exact h.1); rw [h2.2.2, Bool.true_and, wi_iff.2 ⟨h2.2.1.1, by omega⟩] at g2; cases g2)))
      have HG2 := Lib.hid g2
      clear g1 g2 HR
      go_enter Try.func22, Try.ntmps22
      go_wp2_with fail
      refine (HST.out p _ hb0).mono ?_
      rintro e w1 ⟨rfl, hb1⟩
      rw [HG1.out]
      have b0 := (Blk.new w _ _ w.heap.size rfl).keep hb1
      have x0 : w1.cell? ⟨w.heap.size, 0, none⟩ = some _ := b0.cell 0
      have x1 : w1.cell? ⟨w.heap.size, 1, none⟩ = some _ := b0.cell 1
      have x2 : w1.cell? ⟨w.heap.size, 2, none⟩ = some _ := b0.cell 2
      have hb2 := below_trans hb0 hb1
      clear hb1 b0
      go_wp2_with fail
      refine (HST.out q _ hb2).mono ?_
      rintro e w2 ⟨rfl, hb3⟩
      rw [HG2.out]
      have hb4 := below_trans hb2 hb3
      clear hb3
      go_wp2_with fail
      go_ret
      rw [HF.out]
      exact ⟨_, rfl, lit_nilL hb4.size, hb4.alloc hb4.size _⟩
    | true =>
      have hs : stB a p q = true := by
        simp only [Bool.and_eq_true] at g1 g2
        rw [stB, g1.2, g2.2, g1.1]; rfl
      have hg := stB_iff.1 hs
      have HG2 := Lib.hid g2
      cases hw : wi n 0 12 with
      | false =>
        have HF := Lib.hid (HR.out.trans (show pumpedL a p q n = [] from if_neg (by rw [pumpOk, hw]; simp)))
        rw [hw] at HW
        clear g1 g2 HR hs hg hw
        go_enter Try.func22, Try.ntmps22
        go_wp2_with fail
        refine (HST.out p _ hb0).mono ?_
        rintro e w1 ⟨rfl, hb1⟩
        rw [HG1.out]
        have b0 := (Blk.new w _ _ w.heap.size rfl).keep hb1
        have x0 : w1.cell? ⟨w.heap.size, 0, none⟩ = some _ := b0.cell 0
        have x1 : w1.cell? ⟨w.heap.size, 1, none⟩ = some _ := b0.cell 1
        have x2 : w1.cell? ⟨w.heap.size, 2, none⟩ = some _ := b0.cell 2
        have hb2 := below_trans hb0 hb1
        clear hb1
        go_wp2_with fail
        refine (HST.out q _ hb2).mono ?_
        rintro e w2 ⟨rfl, hb3⟩
        rw [HG2.out]
        have b1 := b0.keep hb3
        have x0 : w2.cell? ⟨w.heap.size, 0, none⟩ = some _ := b1.cell 0
        have x1 : w2.cell? ⟨w.heap.size, 1, none⟩ = some _ := b1.cell 1
        have x2 : w2.cell? ⟨w.heap.size, 2, none⟩ = some _ := b1.cell 2
        have hb4 := below_trans hb2 hb3
        clear hb3 b0 b1
        go_wp2_with fail
        refine (HW.out _).mono ?_
        rintro e w9 ⟨rfl, hw9⟩
        rw [hw9]
        clear hw9
        go_wp2_with fail
        go_ret
        rw [HF.out]
        exact ⟨_, rfl, lit_nilL hb4.size, hb4.alloc hb4.size _⟩
      | true =>
        have hwi := wi_iff.1 hw
        obtain ⟨N, rfl⟩ := Int.eq_ofNat_of_zero_le hwi.1
        have HF := Lib.hid (HR.out.trans (show pumpedL a p q (N : Int) = pumpL a p q N from (if_pos (by rw [pumpOk, hs, hw]; rfl)).trans (by simp)))
        have HI := Lib.hid (fun (W : World) (hW : Below w.heap.size w W) => l22Pumped_any _ a p q N W (HV.out.keep hW) hg.2.2 hg.1 hg.2.1 (by omega))
        rw [hw] at HW
        clear g1 g2 HR hs hg hw hwi
        go_enter Try.func22, Try.ntmps22
        go_wp2_with fail
        refine (HST.out p _ hb0).mono ?_
        rintro e w1 ⟨rfl, hb1⟩
        rw [HG1.out]
        have b0 := (Blk.new w _ _ w.heap.size rfl).keep hb1
        have x0 : w1.cell? ⟨w.heap.size, 0, none⟩ = some _ := b0.cell 0
        have x1 : w1.cell? ⟨w.heap.size, 1, none⟩ = some _ := b0.cell 1
        have x2 : w1.cell? ⟨w.heap.size, 2, none⟩ = some _ := b0.cell 2
        have hb2 := below_trans hb0 hb1
        clear hb1
        go_wp2_with fail
        refine (HST.out q _ hb2).mono ?_
        rintro e w2 ⟨rfl, hb3⟩
        rw [HG2.out]
        have b1 := b0.keep hb3
        have x0 : w2.cell? ⟨w.heap.size, 0, none⟩ = some _ := b1.cell 0
        have x1 : w2.cell? ⟨w.heap.size, 1, none⟩ = some _ := b1.cell 1
        have x2 : w2.cell? ⟨w.heap.size, 2, none⟩ = some _ := b1.cell 2
        have hb4 := below_trans hb2 hb3
        clear hb3 b0 b1
        go_wp2_with fail
        refine (HW.out _).mono ?_
        rintro e w9 ⟨rfl, hw9⟩
        rw [hw9]
        clear hw9
        go_wp2_with fail
        refine (HI.out _ hb4).mono ?_
        rintro e w5 ⟨v5, rfl, ho, hb5⟩
        have HO := Lib.hid (ho.mono hb4.size (Nat.le_refl _))
        obtain ⟨A9, n9, c9, rfl⟩ := ho.shape
        have HB := Lib.hid (below_trans hb4 hb5)
        clear ho hb5
        go_wp2_with fail
        go_ret
        rw [HF.out]
        exact ⟨_, rfl, HO.out, HB.out⟩
end Go.Proofs.Ytgdgelkeflihpaa

