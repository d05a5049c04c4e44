/- Parts of the proof, joined into one text: View, Bits, AutI, SetI, GraphI, BothI. -/
import Derived.Test.YtmlfkledhnlkeaaPartBIGHANEE
import Derived.Test.YtmlfkledhnlkeaaPartPLILMNPP
import Derived.Laws.BitsAll
import Derived.IntWalk
import Derived.Test.YtmlfkledhnlkeaaPartCAPLBKNO
/- Valid graphs and automata in memory: their shape and their cells, ready for a walk. Nothing of the program. -/
namespace Go.Proofs.Ytmlfkledhnlkeaa
set_option linter.unusedVariables false
set_option linter.unusedSimpArgs false
open Go.ChangeShapes Go.WideShapes Go.ChangeAt Go.RowKit

theorem bcell {w w' : World} (hb : Below w.heap.size w w') {b o : Nat} {v : Value} (h : w.cell? ⟨b, o, none⟩ = some v) (hl : b < w.heap.size) : w'.cell? ⟨b, o, none⟩ = some v := (hb.cell (p := ⟨b, o, none⟩) hl).trans h

/-- slice value v, of n elements, at A with capacity c; element i (k cells E x) lies in a block below H -/
structure SlC {α : Type} (H : Nat) (w : World) (E : α → List Value) (k : Nat) (A : Option Addr) (xs : List α) : Prop where
  at_ : ∀ i x, xs[i]? = some x → ∃ b o, A = some ⟨b, o, none⟩ ∧ b < H ∧ ∀ j u, (E x)[j]? = some u → w.cell? ⟨b, o + i * k + j, none⟩ = some u
theorem SlE.form {α : Type} {w : World} {E : α → List Value} {k : Nat} {v : Value} {xs : List α} (h : SlE w E k v xs) :
    ∃ A c, v = .slice A xs.length c ∧ xs.length ≤ c ∧ c ≤ 9223372036854775807 ∧ SlC w.heap.size w E k A xs := by
  obtain ⟨A, c, rfl, h1, h2, h3⟩ := h
  exact ⟨A, c, rfl, h1, by simpa [maxLen] using h2, ⟨fun i x hx => by obtain ⟨b, o, e, _, g, h⟩ := h3 i x hx; exact ⟨b, o, e, g, h⟩⟩⟩
theorem SlC.keep {α : Type} {w w' : World} {E : α → List Value} {k : Nat} {A : Option Addr} {xs : List α} (h : SlC w.heap.size w E k A xs) (hb : Below w.heap.size w w') : SlC w'.heap.size w' E k A xs :=
  ⟨fun i x hx => by obtain ⟨b, o, e, g, h⟩ := h.at_ i x hx; exact ⟨b, o, e, Nat.lt_of_lt_of_le g hb.size, fun j u hu => (hb.cell (p := ⟨_, _, none⟩) g).trans (h j u hu)⟩⟩
/-- an int, a bool: one cell -/
theorem SlC.int {H : Nat} {w : World} {A : Option Addr} {xs : List Int} (h : SlC H w cI 1 A xs) {i : Nat} {x : Int} (hx : xs[i]? = some x) : ∃ b o, A = some ⟨b, o, none⟩ ∧ b < H ∧ w.cell? ⟨b, o + i, none⟩ = some (.int .i64 x) := by
  obtain ⟨b, o, e, g, h⟩ := h.at_ i x hx
  exact ⟨b, o, e, g, by simpa using h 0 _ rfl⟩
theorem SlC.bool {H : Nat} {w : World} {A : Option Addr} {xs : List Bool} (h : SlC H w cB 1 A xs) {i : Nat} {x : Bool} (hx : xs[i]? = some x) : ∃ b o, A = some ⟨b, o, none⟩ ∧ b < H ∧ w.cell? ⟨b, o + i, none⟩ = some (.bool x) := by
  obtain ⟨b, o, e, g, h⟩ := h.at_ i x hx
  exact ⟨b, o, e, g, by simpa using h 0 _ rfl⟩
theorem SlC.val {H : Nat} {w : World} {A : Option Addr} {xs : List Value} (h : SlC H w cV 1 A xs) {i : Nat} {x : Value} (hx : xs[i]? = some x) : ∃ b o, A = some ⟨b, o, none⟩ ∧ b < H ∧ w.cell? ⟨b, o + i, none⟩ = some x := by
  obtain ⟨b, o, e, g, h⟩ := h.at_ i x hx
  exact ⟨b, o, e, g, by simpa using h 0 _ rfl⟩
theorem SlC.ed {H : Nat} {w : World} {A : Option Addr} {xs : List Ed} (h : SlC H w cEd 4 A xs) {i : Nat} {e : Ed} (hx : xs[i]? = some e) :
    ∃ b o, A = some ⟨b, o, none⟩ ∧ b < H ∧ w.cell? ⟨b, o + i * 4, none⟩ = some (.int .i64 e.1) ∧ w.cell? ⟨b, o + i * 4 + 1, none⟩ = some (.int .i64 e.2.1) ∧ w.cell? ⟨b, o + i * 4 + 2, none⟩ = some (.int .i64 e.2.2.1) ∧ w.cell? ⟨b, o + i * 4 + 3, none⟩ = some (.int .i64 e.2.2.2) := by
  obtain ⟨b, o, e, g, h⟩ := h.at_ i e hx
  exact ⟨b, o, e, g, by simpa using h 0 _ rfl, h 1 _ rfl, h 2 _ rfl, h 3 _ rfl⟩
theorem SlC.st {H : Nat} {w : World} {A : Option Addr} {xs : List St} (h : SlC H w cSt 2 A xs) {i : Nat} {e : St} (hx : xs[i]? = some e) :
    ∃ b o, A = some ⟨b, o, none⟩ ∧ b < H ∧ w.cell? ⟨b, o + i * 2, none⟩ = some (.int .i64 e.1) ∧ w.cell? ⟨b, o + i * 2 + 1, none⟩ = some (.bool e.2) := by
  obtain ⟨b, o, e, g, h⟩ := h.at_ i e hx
  exact ⟨b, o, e, g, by simpa using h 0 _ rfl, h 1 _ rfl⟩

/-- a valid automaton: the rows lie at A2, each of nine cells -/
structure AuC (w : World) (A1 A2 : Option Addr) (a : Au) : Prop where
  acc : SlC w.heap.size w cB 1 A1 a.accept
  row : ∀ i, i < a.accept.length → ∃ b o b3 o3 c3, A2 = some ⟨b, o, none⟩ ∧ b < w.heap.size ∧ w.cell? ⟨b, o + i, none⟩ = some (.slice (some ⟨b3, o3, none⟩) 9 c3) ∧ 9 ≤ c3 ∧ c3 ≤ 9223372036854775807 ∧ b3 < w.heap.size ∧ ∀ l, l < 9 → w.cell? ⟨b3, o3 + l, none⟩ = some (.int .i64 (mv a i l))
theorem AuV.form {w : World} {v : Value} {a : Au} (h : AuV 0 w.heap.size w v a) (hok : auOk a = true) :
    ∃ A1 c1 A2 c2, v = .agg #[.int .i64 a.start, .slice A1 a.accept.length c1, .slice A2 a.accept.length c2] ∧ a.accept.length ≤ c1 ∧ c1 ≤ 9223372036854775807 ∧ a.accept.length ≤ c2 ∧ c2 ≤ 9223372036854775807 ∧ AuC w A1 A2 a := by
  obtain ⟨⟨-, -⟩, -, hnl, hrk⟩ := auOk_iff.1 hok
  obtain ⟨ac, nx, rfl, h1, us, h2, hul, hrows⟩ := h
  obtain ⟨A1, c1, rfl, h3, h4, h5⟩ := SlE.form h1
  obtain ⟨A2, c2, rfl, h6, h7, h8⟩ := SlE.form h2
  rw [hul, hnl] at h6 ⊢
  refine ⟨A1, c1, A2, c2, rfl, h3, h4, h6, h7, h5, fun i hi => ?_⟩
  have hin : i < a.next.length := by omega
  have hiu : i < us.length := by omega
  have hxi : a.next[i]? = some a.next[i] := List.getElem?_eq_getElem hin
  obtain ⟨b, o, rfl, hb, hc⟩ := h8.val (List.getElem?_eq_getElem hiu)
  have hrl := (rowOk_iff.1 (hrk _ (List.getElem_mem hin))).2
  obtain ⟨A3, c3, hv3, h9, h10, h11⟩ := SlE.form (hrows i us[i] _ (List.getElem?_eq_getElem hiu) hxi)
  rw [hrl] at hv3 h9
  obtain ⟨b3, o3, rfl, hb3, -⟩ := h11.int (i := 0) (List.getElem?_eq_getElem (by omega))
  refine ⟨b, o, b3, o3, c3, rfl, hb, by rw [hc, hv3], h9, h10, hb3, fun l hl => ?_⟩
  have hti : a.next[i][l]? = some a.next[i][l] := List.getElem?_eq_getElem (by omega)
  obtain ⟨b4, o4, he, hb4, hc4⟩ := h11.int hti
  simp only [Option.some.injEq, Addr.mk.injEq, and_true] at he
  obtain ⟨rfl, rfl⟩ := he
  rw [hc4, mv_of hxi hti]
theorem AuC.keep {w w' : World} {A1 A2 : Option Addr} {a : Au} (h : AuC w A1 A2 a) (hb : Below w.heap.size w w') : AuC w' A1 A2 a := by
  refine ⟨h.acc.keep hb, fun i hi => ?_⟩
  obtain ⟨b, o, b3, o3, c3, e, h1, h2, h3, h4, h5, h6⟩ := h.row i hi
  exact ⟨b, o, b3, o3, c3, e, Nat.lt_of_lt_of_le h1 hb.size, (hb.cell (p := ⟨_, _, none⟩) h1).trans h2, h3, h4, Nat.lt_of_lt_of_le h5 hb.size, fun l hl => (hb.cell (p := ⟨_, _, none⟩) h5).trans (h6 l hl)⟩
/-- a graph: values at A1, edges at A2 -/
theorem GrV.form {w : World} {v : Value} {g : Gr} (h : GrV 0 w.heap.size w v g) :
    ∃ A1 c1 A2 c2, v = .agg #[.slice A1 g.vals.length c1, .slice A2 g.edges.length c2] ∧ g.vals.length ≤ c1 ∧ c1 ≤ 9223372036854775807 ∧ g.edges.length ≤ c2 ∧ c2 ≤ 9223372036854775807 ∧ SlC w.heap.size w cI 1 A1 g.vals ∧ SlC w.heap.size w cEd 4 A2 g.edges := by
  obtain ⟨vs, es, rfl, h1, h2⟩ := h
  obtain ⟨A1, c1, rfl, h3, h4, h5⟩ := SlE.form h1
  obtain ⟨A2, c2, rfl, h6, h7, h8⟩ := SlE.form h2
  exact ⟨A1, c1, A2, c2, rfl, h3, h4, h6, h7, h5, h8⟩
theorem WkV.form {w : World} {v : Value} {k : Wk} (h : WkV 0 w.heap.size w v k) :
    ∃ A1 c1, v = .agg #[.int .i64 k.1, .slice A1 k.2.length c1] ∧ k.2.length ≤ c1 ∧ c1 ≤ 9223372036854775807 ∧ SlC w.heap.size w cSt 2 A1 k.2 := by
  obtain ⟨ss, rfl, h1⟩ := h
  obtain ⟨A1, c1, rfl, h3, h4, h5⟩ := SlE.form h1
  exact ⟨A1, c1, rfl, h3, h4, h5⟩
end Go.Proofs.Ytmlfkledhnlkeaa

/- Ints as sets of small numbers: what Go's shifts, ands and ors come to. -/
namespace Go.Proofs.Ytmlfkledhnlkeaa
set_option linter.unusedVariables false
set_option linter.unusedSimpArgs false
open Go.ChangeShapes Go.WideShapes Go.ChangeAt Go.RowKit

theorem wrap_small {n : Int} (h0 : 0 ≤ n) (h1 : n < 9223372036854775808) : IntKind.i64.wrap n = n := by rw [IntKind.wrap_i64]; omega
theorem wrap64_small {n : Int} (h0 : 0 ≤ n) (h1 : n < 9223372036854775808) : wrap64 n = n := IntWalk.wrap64_in n ⟨by omega, by omega⟩
theorem i64_and_nat (a b : Nat) (ha : a < 2 ^ 62) (hb : b < 2 ^ 62) : bits .and .i64 (a : Int) (b : Int) = ((a &&& b : Nat) : Int) :=
  (bits_nat .i64 62 (by decide) (fun n h0 h1 => wrap_small h0 (by omega)) a b ha hb).1
theorem i64_or_nat (a b : Nat) (ha : a < 2 ^ 62) (hb : b < 2 ^ 62) : bits .or .i64 (a : Int) (b : Int) = ((a ||| b : Nat) : Int) :=
  (bits_nat .i64 62 (by decide) (fun n h0 h1 => wrap_small h0 (by omega)) a b ha hb).2
theorem shr_nat (m s : Nat) (_ : s ≤ 64) : (m : Int) / 2 ^ s = ((m / 2 ^ s : Nat) : Int) := by
  simp
/-- 1 << s -/
theorem shl_bit {s : Nat} (hs : s < 62) : wrap64 (2 ^ s) = (bit s : Int) := by
  have h1 : (2 : Int) ^ s = ((2 ^ s : Nat) : Int) := by simp
  have h2 : 2 ^ s < 2 ^ 62 := Nat.pow_lt_pow_right (by omega) hs
  rw [h1]
  show _ = ((2 ^ s : Nat) : Int)
  generalize 2 ^ s = k at h2 ⊢
  exact wrap64_small (by omega) (by omega)
theorem shl_bit2 {s : Nat} (hs : s < 62) : IntKind.i64.wrap (2 ^ s) = (bit s : Int) := by
  have h1 : (2 : Int) ^ s = ((2 ^ s : Nat) : Int) := by simp
  have h2 : 2 ^ s < 2 ^ 62 := Nat.pow_lt_pow_right (by omega) hs
  rw [h1]
  show _ = ((2 ^ s : Nat) : Int)
  generalize 2 ^ s = k at h2 ⊢
  exact IntWalk.i64_in _ (by omega)
theorem shl_bit3 {s : Nat} (hs : s < 62) : IntKind.i64.wrap (2 ^ min s 64) = (bit s : Int) := by rw [Nat.min_eq_left (by omega)]; exact shl_bit2 hs
/-- m | 1 << s -/
theorem or_ins {m s : Nat} (hm : m < 2 ^ 62) (hs : s < 62) : bits .or .i64 (m : Int) (bit s : Int) = (ins m s : Int) :=
  i64_or_nat m (bit s) hm (bit_lt hs)
/-- m >> s & 1 -/
theorem and_bit {m s : Nat} (hm : m < 2 ^ 62) (hs : s ≤ 64) : bits .and .i64 ((m : Int) / 2 ^ s) 1 = if m.testBit s = true then 1 else 0 := by
  have h1 : m / 2 ^ s < 2 ^ 62 := Nat.lt_of_le_of_lt (Nat.div_le_self _ _) hm
  rw [shr_nat m s hs, show (1 : Int) = ((1 : Nat) : Int) by rfl, i64_and_nat _ _ h1 (by decide), nat_mask1, Nat.testBit_eq_decide_div_mod_eq]
  have h2 := Nat.mod_two_eq_zero_or_one (m / 2 ^ s)
  rcases h2 with h2 | h2 <;> simp [h2]
theorem bit_on {m s : Nat} (hm : m < 2 ^ 62) (hs : s ≤ 64) (h : m.testBit s = true) : bits .and .i64 ((m : Int) / 2 ^ s) 1 = 1 := by rw [and_bit hm hs, if_pos h]
theorem bit_off {m s : Nat} (hm : m < 2 ^ 62) (hs : s ≤ 64) (h : m.testBit s = false) : bits .and .i64 ((m : Int) / 2 ^ s) 1 = 0 := by rw [and_bit hm hs, if_neg (by simp [h])]
/-- m >> i != 0 -/
theorem shr_on {m i : Nat} (hi : i ≤ 64) (h : 2 ^ i ≤ m) : ((m : Int) / 2 ^ i != 0) = true := by
  rw [shr_nat m i hi]
  have : 0 < m / 2 ^ i := Nat.div_pos h (Nat.two_pow_pos _)
  simp only [bne_iff_ne, ne_eq]; omega
theorem shr_off {m i : Nat} (hi : i ≤ 64) (h : m < 2 ^ i) : ((m : Int) / 2 ^ i != 0) = false := by
  rw [shr_nat m i hi, Nat.div_eq_of_lt h]; rfl
/-- a natural number as one cell -/
def cN (x : Nat) : List Value := [.int .i64 (x : Int)]
theorem cN_len (x : Nat) : (cN x).length = 1 := rfl
theorem cN_one (x : Nat) : ∀ u ∈ cN x, u.oneCell' = true := by intro u hu; simp only [cN, List.mem_cons, List.not_mem_nil, or_false] at hu; subst hu; rfl
theorem SlC.nat {H : Nat} {w : World} {A : Option Addr} {xs : List Nat} (h : SlC H w cN 1 A xs) {i : Nat} {x : Nat} (hx : xs[i]? = some x) : ∃ b o, A = some ⟨b, o, none⟩ ∧ b < H ∧ w.cell? ⟨b, o + i, none⟩ = some (.int .i64 (x : Int)) := by
  obtain ⟨b, o, e, g, h⟩ := h.at_ i x hx
  exact ⟨b, o, e, g, by simpa using h 0 _ rfl⟩
theorem Own.form {α : Type} {lo : Nat} {w : World} {e : TypeId} {E : α → List Value} {k : Nat} {v : Value} {xs : List α} (h : Own lo w.heap.size w e E k v xs) (hE : ∀ x, (E x).length = k) :
    ∃ A c, v = .slice A xs.length c ∧ xs.length ≤ c ∧ c ≤ 9223372036854775807 ∧ SlC w.heap.size w E k A xs := SlE.form ((h.sl hE).all (Nat.le_refl _))
end Go.Proofs.Ytmlfkledhnlkeaa

/- The program's functions on automata. -/
namespace Go.Proofs.Ytmlfkledhnlkeaa
set_option linter.unusedVariables false
set_option linter.unusedSimpArgs false
open Go.ChangeShapes Go.WideShapes Go.ChangeAt Go.RowKit
attribute [local go_sem] ext_cell ext_frozen ext_lt ext_lt1 ext_lt2 ext_lt3 ltn2 ltn3 ltn13 lts1 lts2 lts3

theorem within_any (n a b : Int) (w : World) : Calls Try.prog 79 #[.int .i64 n, .int .i64 a, .int .i64 b] w fun e w' => e = .returned (.bool (wi n a b)) ∧ w' = w := by
  unfold wi
  by_cases h1 : a ≤ n
  · have e1 : decide (a ≤ n) = true := by simpa using h1
    by_cases h2 : n ≤ b
    · go_enter Try.func79, Try.ntmps79
      go_wp2
      go_ret
      exact ⟨by simp [h1, h2], rfl⟩
    · go_enter Try.func79, Try.ntmps79
      go_wp2
      go_ret
      exact ⟨by simp [h1]; try omega, rfl⟩
  · have e1 : decide (a ≤ n) = false := by simpa using h1
    go_enter Try.func79, Try.ntmps79
    go_wp2
    go_ret
    exact ⟨by simp [h1]; try omega, rfl⟩

set_option maxHeartbeats 1000000 in
theorem implValidAutomaton (v : Value) (a : Au) (w : World) (hv : AuV 0 w.heap.size w v a) :
    Calls Try.prog 120 #[v] w fun e w' => e = .returned (.bool (auOk a)) ∧ Below w.heap.size w w' := by
  obtain ⟨ac, nx, rfl, ⟨A1, c1, rfl, hl1, hm1, -⟩, us, ⟨A2, c2, rfl, hl2, hm2, hx2⟩, hul, hrows⟩ := hv
  rw [hul] at hl2 ⊢
  have HU := Lib.hid hul
  clear hul
  unfold maxLen at hm1 hm2
  have hb0 : Below w.heap.size w (w.alloc (.cells #[.int .i64 a.start, .slice A1 a.accept.length c1, .slice A2 a.next.length c2] 50)) := (Below.refl _ _).alloc (Nat.le_refl _) _
  have HW := Lib.hid within_any
  by_cases g1 : wi a.accept.length 1 12 = true
  · by_cases g2 : wi a.start 0 ((a.accept.length : Int) - 1) = true
    · by_cases g3 : a.next.length = a.accept.length
      · have HG3 := Lib.hid g3
        have g3' : ((a.next.length : Int) != (a.accept.length : Int)) = false := by simp; omega
        have hr : auOk a = a.next.all (rowOk a.accept.length) := by simp [auOk, g1, g2, g3]
        have HR := Lib.hid hr
        clear hr g3
        obtain ⟨hn1, hn2⟩ := wi_iff.1 g1
        go_enter Try.func120, Try.ntmps120
        go_wp2_with (go_at_call 79; refine (HW.out _ _ _ _).mono ?_; rintro e w' ⟨rfl, rfl⟩)
        go_loop [32] (fun ii => ∃ i : Nat, i ≤ a.next.length ∧ ii = .int .i64 i ∧ (a.next.take i).all (rowOk a.accept.length) = true) (fun ii => a.next.length - (intOf ii).toNat)
        case atStart => exact ⟨0, Nat.zero_le _, rfl, rfl⟩
        case round =>
          obtain ⟨i, hi, rfl, hall⟩ := hrel
          have HA := Lib.hid hall
          clear hall
          by_cases hlt : i < a.next.length
          · obtain ⟨u, hu⟩ : ∃ u, us[i]? = some u := ⟨_, List.getElem?_eq_getElem (by have := HU.out; omega)⟩
            obtain ⟨b, o, rfl, -, hb1, hc⟩ := hx2 i u hu
            have hxi : a.next[i]? = some a.next[i] := List.getElem?_eq_getElem hlt
            have hvi := hrows i u _ hu hxi
            generalize a.next[i] = row at hvi hxi
            have c0 := hc 0 _ rfl
            simp only [Nat.mul_one, Nat.add_zero] at c0
            obtain ⟨A3, c3, rfl, hl3, hm3, hx3⟩ := hvi
            unfold maxLen at hm3
            have HX := Lib.hid hxi
            clear hc hx2 hu hxi hrows
            go_wp2_with fail
            go_loop [38] (fun jj => ∃ j : Nat, j ≤ row.length ∧ jj = .int .i64 j ∧ (row.take j).all (fun t => wi t (-1) ((a.accept.length : Int) - 1)) = true) (fun jj => row.length - (intOf jj).toNat)
            case atStart => exact ⟨0, Nat.zero_le _, rfl, rfl⟩
            case round =>
              obtain ⟨j, hj, rfl, hall2⟩ := hrel
              have HB := Lib.hid hall2
              clear hall2
              by_cases hlt2 : j < row.length
              · have hxj : row[j]? = some row[j] := List.getElem?_eq_getElem hlt2
                obtain ⟨b2, o2, rfl, -, hb2, hc2⟩ := hx3 j _ hxj
                generalize row[j] = t at hc2 hxj
                have d0 := hc2 0 _ rfl
                simp only [Nat.mul_one, Nat.add_zero] at d0
                have HXJ := Lib.hid hxj
                clear hc2 hx3 hxj
                by_cases g4 : wi t (-1) ((a.accept.length : Int) - 1) = true
                · go_wp2_with (go_at_call 79; refine (HW.out _ _ _ _).mono ?_; rintro e w' ⟨rfl, rfl⟩)
                  go_round
                  case rel => exact ⟨j + 1, by omega, by go_num, all_take_succ HXJ.out HB.out g4⟩
                  case measure => simp [intOf]; omega
                · simp only [Bool.not_eq_true] at g4
                  have hfin : auOk a = false := by
                    rw [HR.out]
                    refine all_false_of HX.out ?_
                    rw [rowOk, all_false_of HXJ.out g4]
                    rfl
                  have HF := Lib.hid hfin
                  clear hfin
                  go_wp2_with (go_at_call 79; refine (HW.out _ _ _ _).mono ?_; rintro e w' ⟨rfl, rfl⟩)
                  go_ret
                  exact ⟨by rw [HF.out]; rfl, hb0⟩
              · obtain rfl : j = row.length := by omega
                have hall3 : row.all (fun t => wi t (-1) ((a.accept.length : Int) - 1)) = true := by have := HB.out; rwa [List.take_length] at this
                have H3 := Lib.hid hall3
                clear hall3
                clear hx3
                by_cases g9 : row.length = 9
                · have g9' : ((row.length : Int) != 9) = false := by simp; omega
                  have hok : rowOk a.accept.length row = true := by rw [rowOk, H3.out, g9]; rfl
                  have HO := Lib.hid hok
                  clear hok g9
                  go_wp2_with fail
                  go_round
                  case rel => exact ⟨i + 1, by omega, by go_num, all_take_succ HX.out HA.out HO.out⟩
                  case measure => simp [intOf]; omega
                · have g9' : ((row.length : Int) != 9) = true := by simp; omega
                  have hfin : auOk a = false := by
                    rw [HR.out]
                    refine all_false_of HX.out ?_
                    rw [rowOk]
                    simp [g9]
                  have HF := Lib.hid hfin
                  clear hfin g9
                  go_wp2_with fail
                  go_ret
                  exact ⟨by rw [HF.out]; rfl, hb0⟩
          · obtain rfl : i = a.next.length := by omega
            have hfin : auOk a = true := by rw [HR.out]; have := HA.out; rwa [List.take_length] at this
            have HF := Lib.hid hfin
            clear hfin hx2 hrows
            go_wp2_with fail
            go_ret
            exact ⟨by rw [HF.out]; rfl, hb0⟩
      · have g3' : ((a.next.length : Int) != (a.accept.length : Int)) = true := by simp; omega
        have hr : auOk a = false := by simp [auOk, g3]
        have HR := Lib.hid hr
        clear hr g3
        go_enter Try.func120, Try.ntmps120
        go_wp2_with (go_at_call 79; refine (HW.out _ _ _ _).mono ?_; rintro e w' ⟨rfl, rfl⟩)
        go_ret
        exact ⟨by rw [HR.out]; rfl, hb0⟩
    · simp only [Bool.not_eq_true] at g2
      have hr : auOk a = false := by simp [auOk, g2]
      have HR := Lib.hid hr
      clear hr
      go_enter Try.func120, Try.ntmps120
      go_wp2_with (go_at_call 79; refine (HW.out _ _ _ _).mono ?_; rintro e w' ⟨rfl, rfl⟩)
      go_ret
      exact ⟨by rw [HR.out]; rfl, hb0⟩
  · simp only [Bool.not_eq_true] at g1
    have hr : auOk a = false := by simp [auOk, g1]
    have HR := Lib.hid hr
    clear hr
    go_enter Try.func120, Try.ntmps120
    go_wp2_with (go_at_call 79; refine (HW.out _ _ _ _).mono ?_; rintro e w' ⟨rfl, rfl⟩)
    go_ret
    exact ⟨by rw [HR.out]; rfl, hb0⟩

end Go.Proofs.Ytmlfkledhnlkeaa

/- The program's sets of states: move, closure, members, after, acceptsAt. -/
namespace Go.Proofs.Ytmlfkledhnlkeaa
set_option linter.unusedVariables false
set_option linter.unusedSimpArgs false
open Go.ChangeShapes Go.WideShapes Go.ChangeAt Go.RowKit
attribute [local go_sem] ext_cell ext_frozen ext_lt ext_lt1 ext_lt2 ext_lt3 ltn2 ltn3 ltn13 lts1 lts2 lts3

theorem isLetter_any (n : Int) (w : World) : Calls Try.prog 109 #[.int .i64 n] w fun e w' => e = .returned (.bool (wi n 0 8)) ∧ w' = w := by
  have HW := Lib.hid within_any
  go_enter Try.func109, Try.ntmps109
  go_wp2_with (go_at_call 79; refine (HW.out _ _ _ _).mono ?_; rintro e w' ⟨rfl, rfl⟩)
  go_ret
  exact ⟨rfl, rfl⟩

def mvI (a : Au) (s l : Int) : Int := if 0 ≤ s ∧ wi l 0 8 = true then mv a s.toNat l.toNat else -1
theorem mvI_in {a : Au} {s l : Nat} (hl : l < 9) : mvI a s l = mv a s l := by
  rw [mvI, if_pos ⟨by omega, wi_iff.2 ⟨by omega, by omega⟩⟩]; simp
set_option maxHeartbeats 1000000 in
theorem move_any (v : Value) (a : Au) (s l : Int) (w : World) (hv : AuV 0 w.heap.size w v a) (hok : auOk a = true) (hs : s < (a.accept.length : Int)) :
    Calls Try.prog 154 #[v, .int .i64 s, .int .i64 l] w fun e w' => e = .returned (.int .i64 (mvI a s l)) ∧ Below w.heap.size w w' := by
  obtain ⟨A1, c1, A2, c2, rfl, hl1, hm1, hl2, hm2, hC⟩ := hv.form hok
  have HL := Lib.hid isLetter_any
  have hb0 : Below w.heap.size w (w.alloc (.cells #[.int .i64 a.start, .slice A1 a.accept.length c1, .slice A2 a.accept.length c2] 50)) := (Below.refl _ _).alloc (Nat.le_refl _) _
  have HOK := Lib.hid hok
  clear hok hv
  by_cases h0 : s < 0
  · have hfin : mvI a s l = -1 := by rw [mvI, if_neg (by omega)]
    have HF := Lib.hid hfin
    clear hfin
    go_enter Try.func154, Try.ntmps154
    go_wp2_with fail
    go_ret
    exact ⟨by rw [HF.out]; rfl, hb0⟩
  · obtain ⟨s, rfl⟩ := Int.eq_ofNat_of_zero_le (show 0 ≤ s by omega)
    cases hl : wi l 0 8 with
    | false =>
      have hfin : mvI a s l = -1 := by rw [mvI, if_neg (by simp [hl])]
      have HF := Lib.hid hfin
      clear hfin
      go_enter Try.func154, Try.ntmps154
      go_wp2_with (go_at_call 109; refine (HL.out _ _).mono ?_; rintro e w' ⟨rfl, rfl⟩)
      go_ret
      exact ⟨by rw [HF.out]; rfl, hb0⟩
    | true =>
      have hl0 := wi_iff.1 hl
      obtain ⟨l, rfl⟩ := Int.eq_ofNat_of_zero_le hl0.1
      obtain ⟨b2, o2, b3, o3, c3, rfl, hb2, d2, hl3, hm3, hb3, hc3⟩ := hC.row s (by omega)
      have hl9 : l < 9 := by omega
      have d3 := hc3 l hl9
      have HF := Lib.hid (mvI_in (a := a) (s := s) (l := l) (by omega))
      clear hc3 hC hl0
      go_enter Try.func154, Try.ntmps154
      go_wp2_with (go_at_call 109; refine (HL.out _ _).mono ?_; rintro e w' ⟨rfl, rfl⟩)
      go_ret
      exact ⟨by rw [HF.out]; rfl, hb0⟩

set_option maxHeartbeats 1000000 in
theorem closure_any (v : Value) (a : Au) (s x : Nat) (w : World) (hv : AuV 0 w.heap.size w v a) (hok : auOk a = true) (hs : s < a.accept.length) (hx : x ≤ 2) :
    Calls Try.prog 140 #[v, .int .i64 (s : Int), .int .i64 (x : Int)] w fun e w' => e = .returned (.int .i64 (cls a x s : Int)) ∧ Below w.heap.size w w' := by
  have hv0 := hv
  obtain ⟨A1, c1, A2, c2, rfl, -⟩ := hv.form hok
  clear hv
  have hn12 : a.accept.length ≤ 12 := (auOk_iff.1 hok).1.2
  have hb0 : Below w.heap.size w (w.alloc (.cells #[.int .i64 a.start, .slice A1 a.accept.length c1, .slice A2 a.accept.length c2] 50)) := (Below.refl _ _).alloc (Nat.le_refl _) _
  have HV := Lib.hid hv0
  have HOK := Lib.hid hok
  clear hok
  obtain ⟨R, hR⟩ : ∃ R, R = cls a x s := ⟨_, rfl⟩
  rw [← hR]
  have HR := Lib.hid hR
  clear hR hv0
  go_enter Try.func140, Try.ntmps140
  go_wp2_with fail
  go_loopw [7, 8] (fun st ss wr => ∃ (f m : Nat) (s : Int) (u : World), st = .int .i64 (m : Int) ∧ ss = .int .i64 s ∧ clsF a (6 + x) f s m = R ∧ f + (mem 12 m).length = 13 ∧ m < 2 ^ a.accept.length ∧ s < (a.accept.length : Int) ∧ wr = ext (w.alloc (.cells #[.int .i64 a.start, .slice A1 a.accept.length c1, .slice A2 a.accept.length c2] 50)) u) (fun st _ _ => 13 - (mem 12 (intOf st).toNat).length)
  case atStart => exact ⟨13, 0, s, _, rfl, rfl, HR.out.symm, by simp [mem], Nat.two_pow_pos _, by omega, ext_self _⟩
  case round =>
    obtain ⟨f, m, s, u, rfl, rfl, hcl, hf, hm, hs, rfl⟩ := hrel
    have hm2 := lt12 HOK.out hm
    have hml := mem_len 12 m
    have HC := Lib.hid hcl
    have HFC := Lib.hid hf
    have hbw := below_trans hb0 (ext_below _ u)
    clear hcl hf
    by_cases h0 : 0 ≤ s
    · obtain ⟨s, rfl⟩ := Int.eq_ofNat_of_zero_le h0
      have hs12 : s < 12 := by omega
      have e1 := shl_bit (s := s) (by omega)
      have e2 := or_ins (m := m) (s := s) (by omega) (by omega)
      cases hb : m.testBit s with
      | true =>
        have e3 := bit_on (by omega) (by omega) hb
        have hfin : m = R := by rw [← HC.out]; exact (clsF_stop (.inr (by simpa using hb))).symm
        have HF := Lib.hid hfin
        clear hfin hb h0
        go_wp2_with fail
        go_ret
        exact ⟨by rw [HF.out]; rfl, hbw⟩
      | false =>
        have e3 := bit_off (by omega) (by omega) hb
        have HB := Lib.hid hb
        have hmv := mv_lt HOK.out s (6 + x)
        clear hb h0
        go_wp2_with fail
        refine (move_any _ a (s : Int) _ _ (HV.out.keep hbw) HOK.out (by omega)).mono ?_
        rintro e w1 ⟨rfl, hb1⟩
        obtain ⟨u1, rfl⟩ := ext_of (below_trans (ext_below _ u) hb1)
        rw [show (6 : Int) + (x : Int) = ((6 + x : Nat) : Int) by omega, mvI_in (by omega)]
        go_wp2_with fail
        go_roundw
        case rel =>
          have h1 := cnt_or (n := 12) (m := m) hs12 HB.out
          have h2 := HFC.out
          obtain ⟨f, rfl⟩ : ∃ f', f = f' + 1 := ⟨f - 1, by omega⟩
          refine ⟨f, ins m s, _, _, rfl, rfl, by rw [← HC.out]; exact (clsF_go HB.out).symm, by omega, ins_lt hm (by omega), by omega, rfl⟩
        case measure =>
          have h1 := cnt_or (n := 12) (m := m) hs12 HB.out
          simp [intOf]; omega
    · have hfin : m = R := by rw [← HC.out]; exact (clsF_stop (.inl (by omega))).symm
      have h0' : decide (s ≥ 0) = false := by simp; omega
      have HF := Lib.hid hfin
      clear hfin
      go_wp2_with fail
      go_ret
      exact ⟨by rw [HF.out]; rfl, hbw⟩

set_option maxHeartbeats 1000000 in
theorem members_any (m : Nat) (w : World) (hm : m < 4096) :
    Calls Try.prog 139 #[.int .i64 (m : Int)] w fun e w' => ∃ v', e = .returned v' ∧ Own w.heap.size w'.heap.size w' 3 cN 1 v' (mem 12 m) ∧ Below w.heap.size w w' := by
  obtain ⟨R, hR⟩ : ∃ R, R = mem 12 m := ⟨_, rfl⟩
  rw [← hR]
  have HR := Lib.hid hR
  clear hR
  go_enter Try.func139, Try.ntmps139
  go_wp2_with fail
  go_loopw [3, 4] (fun out ii wr => ∃ i : Nat, i ≤ 12 ∧ ii = .int .i64 (i : Int) ∧ wr.ownsRow w.heap.size 3 1 out (mem i m).length ((mem i m).flatMap cN) ∧ Below w.heap.size w wr) (fun _ ii _ => 12 - (intOf ii).toNat)
  case atStart => exact ⟨0, Nat.zero_le _, rfl, World.ownsRow_lit w #[] 0 (Nat.le_refl _) (by decide) rfl, (Below.refl _ _).alloc (Nat.le_refl _) _⟩
  case round =>
    obtain ⟨i, hi, rfl, hrow, hbel⟩ := hrel
    have HROW := Lib.hid hrow
    have hs := hbel.size
    have hml := mem_len i m
    clear hrow
    by_cases hlt : 2 ^ i ≤ m
    · have e1 := shr_on (by omega) hlt
      have hi12 : i < 12 := by
        rcases Nat.lt_or_ge i 12 with h | h
        · exact h
        · have : 2 ^ 12 ≤ 2 ^ i := Nat.pow_le_pow_right (by omega) h
          omega
      clear hlt
      cases hb : m.testBit i with
      | true =>
        have e3 := bit_on (by omega) (by omega) hb
        have HM := Lib.hid (mem_yes hb)
        clear hb
        go_wp2_with (at_builtin; (refine wpList_append1 cN elInt rfl _ _ rfl w.heap.size _ (mem i m) i _ 1 _ (by rfl) HROW.out (by rfl) rfl rfl rfl (cN_one _) (by omega) (by omega) hs ?_); rw [← HM.out]; intro v' w4 hrow' hb4 _ _)
        go_roundw
        case rel => exact ⟨i + 1, by omega, by go_num, hrow', hbel.trans hb4⟩
        case measure => simp [intOf]; omega
      | false =>
        have e3 := bit_off (by omega) (by omega) hb
        have HM := Lib.hid (mem_no hb)
        clear hb
        go_wp2_with fail
        go_roundw
        case rel => exact ⟨i + 1, by omega, by go_num, by rw [HM.out]; exact HROW.out, hbel⟩
        case measure => simp [intOf]; omega
    · have e1 := shr_off (i := i) (m := m) (by omega) (by omega)
      have hfin : R = mem i m := by rw [HR.out]; exact mem_stop (by omega) hi
      have HF := Lib.hid hfin
      clear hfin hlt
      go_wp2_with fail
      go_ret
      exact ⟨_, rfl, by rw [HF.out]; exact Own.of_row HROW.out rfl rfl, hbel⟩

set_option maxHeartbeats 2000000 in
theorem after_any (v : Value) (a : Au) (set x l : Nat) (w : World) (hv : AuV 0 w.heap.size w v a) (hok : auOk a = true) (hset : set < 2 ^ a.accept.length) (hx : x ≤ 2) (hl : l < 9) :
    Calls Try.prog 121 #[v, .int .i64 (set : Int), .int .i64 (x : Int), .int .i64 (l : Int)] w fun e w' => e = .returned (.int .i64 (aft a set x l : Int)) ∧ Below w.heap.size w w' := by
  have hv0 := hv
  obtain ⟨A1, c1, A2, c2, rfl, -⟩ := hv.form hok
  clear hv
  have hn12 : a.accept.length ≤ 12 := (auOk_iff.1 hok).1.2
  have hb0 : Below w.heap.size w (w.alloc (.cells #[.int .i64 a.start, .slice A1 a.accept.length c1, .slice A2 a.accept.length c2] 50)) := (Below.refl _ _).alloc (Nat.le_refl _) _
  have HV := Lib.hid hv0
  have HOK := Lib.hid hok
  have HSET := Lib.hid hset
  have h4096 := lt12 hok hset
  clear hok hv0 hset
  go_enter Try.func121, Try.ntmps121
  go_wp2_with fail
  refine (members_any set _ h4096).mono ?_
  rintro e w1 ⟨v1, rfl, ho, hb1⟩
  obtain ⟨A3, c3, rfl, hl3, hm3, hC3⟩ := ho.form cN_len
  have hml := mem_len 12 set
  have hb2 := below_trans hb0 hb1
  have HC3 := Lib.hid hC3
  have b0 := (Blk.new w _ _ w.heap.size rfl).keep hb1
  have x0 : w1.cell? ⟨w.heap.size, 0, none⟩ = some _ := b0.cell 0
  have x1 : w1.cell? ⟨w.heap.size, 1, none⟩ = some _ := b0.cell 1
  have x2 : w1.cell? ⟨w.heap.size, 2, none⟩ = some _ := b0.cell 2
  have l0 := b0.lt
  clear b0
  clear hb1 hb0 ho hC3
  go_wp2_with fail
  have hfl : ∀ i, ((mem 12 set).take i).foldl (aftS a x l) 0 < 2 ^ a.accept.length := fun i => foldl_inv (P := fun m => m < 2 ^ a.accept.length) (fun m s hm => aftS_lt HOK.out x l m s hm) _ _ (Nat.two_pow_pos _)
  have HFL := Lib.hid hfl
  clear hfl
  go_loopw [9, 18] (fun out ii wr => ∃ (i : Nat) (u : World), i ≤ (mem 12 set).length ∧ ii = .int .i64 (i : Int) ∧ out = .int .i64 (((mem 12 set).take i).foldl (aftS a x l) 0 : Nat) ∧ wr = ext w1 u) (fun _ ii _ => (mem 12 set).length - (intOf ii).toNat)
  case atStart => exact ⟨0, w1, Nat.zero_le _, rfl, rfl, ext_self _⟩
  case round =>
    obtain ⟨i, u, hi, rfl, rfl, rfl⟩ := hrel
    by_cases hlt : i < (mem 12 set).length
    · have hsi : (mem 12 set)[i]? = some (mem 12 set)[i] := List.getElem?_eq_getElem hlt
      have hsm := mem_mem.1 (List.getElem_mem hlt)
      generalize (mem 12 set)[i] = s at hsi hsm
      have hsn : s < a.accept.length := by
        rcases Nat.lt_or_ge s a.accept.length with h | h
        · exact h
        · have := Nat.testBit_lt_two_pow (Nat.lt_of_lt_of_le HSET.out (Nat.pow_le_pow_right (by omega) h))
          rw [hsm.2] at this; cases this
      obtain ⟨b3, o3, rfl, hb3, d3⟩ := HC3.out.nat hsi
      have HFT := Lib.hid (foldl_take (f := aftS a x l) hsi 0)
      have hbw := below_trans hb2 (ext_below w1 u)
      have hm0 := HFL.out i
      generalize ((mem 12 set).take i).foldl (aftS a x l) 0 = m0 at *
      clear hsi hsm
      go_wp2_with fail
      refine (closure_any _ a s x _ (HV.out.keep hbw) HOK.out hsn hx).mono ?_
      rintro e w2 ⟨rfl, hb5⟩
      obtain ⟨u2, rfl⟩ := ext_of (below_trans (ext_below w1 u) hb5)
      have hcl := cls_lt HOK.out x s hsn
      have hcl4 := lt12 HOK.out hcl
      go_wp2_with fail
      refine (members_any (cls a x s) _ hcl4).mono ?_
      rintro e w3 ⟨v4, rfl, ho4, hb6⟩
      obtain ⟨A4, c4, rfl, hl4, hm4, hC4⟩ := ho4.form cN_len
      have hml4 := mem_len 12 (cls a x s)
      have hb7 := below_trans (ext_below w1 u2) hb6
      have hb8 := below_trans hb2 hb7
      have x0 := bcell hb7 x0 l0
      have x1 := bcell hb7 x1 l0
      have x2 := bcell hb7 x2 l0
      have l0 := Nat.lt_of_lt_of_le l0 hb7.size
      have HC4 := Lib.hid hC4
      have HCL := Lib.hid hcl
      clear hb6 hb5 hbw ho4 hC4 hcl
      go_wp2_with fail
      go_loopw [9, 28] (fun out jj wr => ∃ (j : Nat) (u : World), j ≤ (mem 12 (cls a x s)).length ∧ jj = .int .i64 (j : Int) ∧ out = .int .i64 (((mem 12 (cls a x s)).take j).foldl (aft1 a l) m0 : Nat) ∧ wr = ext w3 u) (fun _ jj _ => (mem 12 (cls a x s)).length - (intOf jj).toNat)
      case atStart => exact ⟨0, w3, Nat.zero_le _, rfl, rfl, ext_self _⟩
      case round =>
        obtain ⟨j, u3, hj, rfl, rfl, rfl⟩ := hrel
        by_cases hlt2 : j < (mem 12 (cls a x s)).length
        · have hti : (mem 12 (cls a x s))[j]? = some (mem 12 (cls a x s))[j] := List.getElem?_eq_getElem hlt2
          have htm := mem_mem.1 (List.getElem_mem hlt2)
          generalize (mem 12 (cls a x s))[j] = t at hti htm
          have htn : t < a.accept.length := by
            rcases Nat.lt_or_ge t a.accept.length with h | h
            · exact h
            · have := Nat.testBit_lt_two_pow (Nat.lt_of_lt_of_le HCL.out (Nat.pow_le_pow_right (by omega) h))
              rw [htm.2] at this; cases this
          obtain ⟨b4, o4, rfl, hb4, d4⟩ := HC4.out.nat hti
          have HFT2 := Lib.hid (foldl_take (f := aft1 a l) hti m0)
          have hm1 : ((mem 12 (cls a x s)).take j).foldl (aft1 a l) m0 < 2 ^ a.accept.length := foldl_inv (P := fun m => m < 2 ^ a.accept.length) (fun m s hm => aft1_lt HOK.out l m s hm) _ _ hm0
          have hm14 := lt12 HOK.out hm1
          generalize ((mem 12 (cls a x s)).take j).foldl (aft1 a l) m0 = m1 at *
          have hbw := below_trans hb8 (ext_below w3 u3)
          have hmv := mv_lt HOK.out t l
          have HA := Lib.hid (show aft1 a l m1 t = if 0 ≤ mv a t l then ins m1 (mv a t l).toNat else m1 from rfl)
          clear hti htm hm0
          go_wp2_with fail
          refine (move_any _ a (t : Int) (l : Int) _ (HV.out.keep hbw) HOK.out (by omega)).mono ?_
          rintro e w4 ⟨rfl, hb9⟩
          obtain ⟨u4, rfl⟩ := ext_of (below_trans (ext_below w3 u3) hb9)
          rw [mvI_in hl]
          clear hb9
          by_cases h0 : 0 ≤ mv a t l
          · generalize mv a t l = z at *
            obtain ⟨z, rfl⟩ := Int.eq_ofNat_of_zero_le h0
            have e1 := shl_bit (s := z) (by omega)
            have e2 := or_ins (m := m1) (s := z) (by omega) (by omega)
            go_wp2_with fail
            go_roundw
            case rel => exact ⟨j + 1, u4, by omega, by go_num, by rw [HFT2.out, HA.out, if_pos h0]; simp, rfl⟩
            case measure => simp [intOf]; omega
          · have h0' : decide (mv a t l ≥ 0) = false := by simp; omega
            go_wp2_with fail
            go_roundw
            case rel => exact ⟨j + 1, u4, by omega, by go_num, by rw [HFT2.out, HA.out, if_neg (by omega)], rfl⟩
            case measure => simp [intOf]; omega
        · obtain rfl : j = (mem 12 (cls a x s)).length := by omega
          have HT := Lib.hid (show ((mem 12 (cls a x s)).take (mem 12 (cls a x s)).length).foldl (aft1 a l) m0 = aftS a x l m0 s by rw [List.take_length]; rfl)
          go_wp2_with fail
          go_roundw
          case rel =>
            obtain ⟨u5, hu5⟩ := ext_of (below_trans hb7 (ext_below w3 u3))
            exact ⟨i + 1, u5, by omega, by go_num, by rw [HFT.out, HT.out], hu5⟩
          case measure => simp [intOf]; omega
    · obtain rfl : i = (mem 12 set).length := by omega
      have HT := Lib.hid (show ((mem 12 set).take (mem 12 set).length).foldl (aftS a x l) 0 = aft a set x l by rw [List.take_length]; rfl)
      go_wp2_with fail
      go_ret
      exact ⟨by rw [HT.out]; rfl, below_trans hb2 (ext_below w1 u)⟩

theorem bit_in {n m t : Nat} (hm : m < 2 ^ n) (ht : m.testBit t = true) : t < n := by
  rcases Nat.lt_or_ge t n with h | h
  · exact h
  · have := Nat.testBit_lt_two_pow (Nat.lt_of_lt_of_le hm (Nat.pow_le_pow_right (by omega) h))
    rw [ht] at this; cases this
theorem any_take {α : Type} {p : α → Bool} {xs : List α} {i : Nat} {x : α} (h : xs[i]? = some x) : (xs.take (i + 1)).any p = ((xs.take i).any p || p x) := by
  rw [take_snoc h, List.any_append]; simp
theorem any_of_at {α : Type} {p : α → Bool} {xs : List α} {i : Nat} {x : α} (h : xs[i]? = some x) (hp : p x = true) : xs.any p = true := List.any_eq_true.2 ⟨x, List.mem_of_getElem? h, hp⟩
set_option maxHeartbeats 2000000 in
theorem acceptsAt_any (v : Value) (a : Au) (set x : Nat) (w : World) (hv : AuV 0 w.heap.size w v a) (hok : auOk a = true) (hset : set < 2 ^ a.accept.length) (hx : x ≤ 2) :
    Calls Try.prog 95 #[v, .int .i64 (set : Int), .int .i64 (x : Int)] w fun e w' => e = .returned (.bool (acc a set x)) ∧ Below w.heap.size w w' := by
  have hv0 := hv
  obtain ⟨A1, c1, A2, c2, rfl, hl1, hm1, -, -, hAC, -⟩ := hv.form hok
  clear hv
  have hn12 : a.accept.length ≤ 12 := (auOk_iff.1 hok).1.2
  have hb0 : Below w.heap.size w (w.alloc (.cells #[.int .i64 a.start, .slice A1 a.accept.length c1, .slice A2 a.accept.length c2] 50)) := (Below.refl _ _).alloc (Nat.le_refl _) _
  have HV := Lib.hid hv0
  have HOK := Lib.hid hok
  have HSET := Lib.hid hset
  have HAC := Lib.hid hAC
  have h4096 := lt12 hok hset
  clear hok hv0 hset hAC
  go_enter Try.func95, Try.ntmps95
  go_wp2_with fail
  refine (members_any set _ h4096).mono ?_
  rintro e w1 ⟨v1, rfl, ho, hb1⟩
  obtain ⟨A3, c3, rfl, hl3, hm3, hC3⟩ := ho.form cN_len
  have hml := mem_len 12 set
  have hb2 := below_trans hb0 hb1
  have HC3 := Lib.hid hC3
  have b0 := (Blk.new w _ _ w.heap.size rfl).keep hb1
  have x0 : w1.cell? ⟨w.heap.size, 0, none⟩ = some _ := b0.cell 0
  have x1 : w1.cell? ⟨w.heap.size, 1, none⟩ = some _ := b0.cell 1
  have x2 : w1.cell? ⟨w.heap.size, 2, none⟩ = some _ := b0.cell 2
  have l0 := b0.lt
  clear b0
  clear hb1 hb0 ho hC3
  go_wp2_with fail
  go_loopw [14] (fun ii wr => ∃ (i : Nat) (u : World), i ≤ (mem 12 set).length ∧ ii = .int .i64 (i : Int) ∧ ((mem 12 set).take i).any (accC a x) = false ∧ wr = ext w1 u) (fun ii _ => (mem 12 set).length - (intOf ii).toNat)
  case atStart => exact ⟨0, w1, Nat.zero_le _, rfl, rfl, ext_self _⟩
  case round =>
    obtain ⟨i, u, hi, rfl, hno, rfl⟩ := hrel
    have HNO := Lib.hid hno
    clear hno
    by_cases hlt : i < (mem 12 set).length
    · have hsi : (mem 12 set)[i]? = some (mem 12 set)[i] := List.getElem?_eq_getElem hlt
      have hsm := mem_mem.1 (List.getElem_mem hlt)
      generalize (mem 12 set)[i] = s at hsi hsm
      have hsn := bit_in HSET.out hsm.2
      obtain ⟨b3, o3, rfl, hb3, d3⟩ := HC3.out.nat hsi
      have hbw := below_trans hb2 (ext_below w1 u)
      have HSI := Lib.hid hsi
      clear hsi hsm
      go_wp2_with fail
      refine (closure_any _ a s x _ (HV.out.keep hbw) HOK.out hsn hx).mono ?_
      rintro e w2 ⟨rfl, hb5⟩
      obtain ⟨u2, rfl⟩ := ext_of (below_trans (ext_below w1 u) hb5)
      have hcl := cls_lt HOK.out x s hsn
      have hcl4 := lt12 HOK.out hcl
      go_wp2_with fail
      refine (members_any (cls a x s) _ hcl4).mono ?_
      rintro e w3 ⟨v4, rfl, ho4, hb6⟩
      obtain ⟨A4, c4, rfl, hl4, hm4, hC4⟩ := ho4.form cN_len
      have hml4 := mem_len 12 (cls a x s)
      have hb7 := below_trans (ext_below w1 u2) hb6
      have hb8 := below_trans hb2 hb7
      have x0 := bcell hb7 x0 l0
      have x1 := bcell hb7 x1 l0
      have x2 := bcell hb7 x2 l0
      have l0 := Nat.lt_of_lt_of_le l0 hb7.size
      have HC4 := Lib.hid hC4
      have HCL := Lib.hid hcl
      have HAC3 := Lib.hid (HAC.out.keep hb8)
      have HAE := Lib.hid (show accC a x s = (mem 12 (cls a x s)).any fun t => a.accept.getD t false from rfl)
      clear hb6 hb5 hbw ho4 hC4 hcl
      go_wp2_with fail
      go_loopw [24] (fun jj wr => ∃ (j : Nat) (u : World), j ≤ (mem 12 (cls a x s)).length ∧ jj = .int .i64 (j : Int) ∧ ((mem 12 (cls a x s)).take j).any (fun t => a.accept.getD t false) = false ∧ wr = ext w3 u) (fun jj _ => (mem 12 (cls a x s)).length - (intOf jj).toNat)
      case atStart => exact ⟨0, w3, Nat.zero_le _, rfl, rfl, ext_self _⟩
      case round =>
        obtain ⟨j, u3, hj, rfl, hno, rfl⟩ := hrel
        have HNJ := Lib.hid hno
        clear hno
        by_cases hlt2 : j < (mem 12 (cls a x s)).length
        · have hti : (mem 12 (cls a x s))[j]? = some (mem 12 (cls a x s))[j] := List.getElem?_eq_getElem hlt2
          have htm := mem_mem.1 (List.getElem_mem hlt2)
          generalize (mem 12 (cls a x s))[j] = t at hti htm
          have htn := bit_in HCL.out htm.2
          obtain ⟨b4, o4, rfl, hb4, d4⟩ := HC4.out.nat hti
          have hbw := below_trans hb8 (ext_below w3 u3)
          have hai : a.accept[t]? = some a.accept[t] := List.getElem?_eq_getElem htn
          obtain ⟨b5, o5, rfl, hb5, d5⟩ := HAC3.out.bool hai
          have hag : a.accept.getD t false = a.accept[t] := by simp [List.getD, hai]
          generalize a.accept[t] = b at *
          have HAG := Lib.hid hag
          have HTI := Lib.hid hti
          clear hti htm hai hag
          cases b with
          | true =>
            have hfin : acc a set x = true := any_of_at HSI.out (by rw [HAE.out]; exact any_of_at HTI.out HAG.out)
            have HF := Lib.hid hfin
            clear hfin
            go_wp2_with fail
            go_ret
            exact ⟨by rw [HF.out]; rfl, hbw⟩
          | false =>
            go_wp2_with fail
            go_roundw
            case rel => exact ⟨j + 1, u3, by omega, by go_num, by rw [any_take HTI.out, HNJ.out, HAG.out]; rfl, rfl⟩
            case measure => simp [intOf]; omega
        · obtain rfl : j = (mem 12 (cls a x s)).length := by omega
          have HT := Lib.hid (show accC a x s = false by have h := HNJ.out; rw [List.take_length] at h; rw [HAE.out]; exact h)
          go_wp2_with fail
          go_roundw
          case rel =>
            obtain ⟨u5, hu5⟩ := ext_of (below_trans hb7 (ext_below w3 u3))
            exact ⟨i + 1, u5, by omega, by go_num, by rw [any_take HSI.out, HNO.out, HT.out]; rfl, hu5⟩
          case measure => simp [intOf]; omega
    · obtain rfl : i = (mem 12 set).length := by omega
      have HT := Lib.hid (show acc a set x = false by have h := HNO.out; rw [List.take_length] at h; exact h)
      go_wp2_with fail
      go_ret
      exact ⟨by rw [HT.out]; rfl, below_trans hb2 (ext_below w1 u)⟩
end Go.Proofs.Ytmlfkledhnlkeaa

/- The program's functions on graphs: validity, edges, steps. -/
namespace Go.Proofs.Ytmlfkledhnlkeaa
set_option linter.unusedVariables false
set_option linter.unusedSimpArgs false
open Go.ChangeShapes Go.WideShapes Go.ChangeAt Go.RowKit
attribute [local go_sem] ext_cell ext_frozen ext_lt ext_lt1 ext_lt2 ext_lt3 ltn2 ltn3 ltn13 lts1 lts2 lts3

set_option maxHeartbeats 1000000 in
theorem edgeOk_any (e : Ed) (n : Nat) (w : World) (hn : n ≤ 9223372036854775807) :
    Calls Try.prog 153 #[.agg #[.int .i64 e.1, .int .i64 e.2.1, .int .i64 e.2.2.1, .int .i64 e.2.2.2], .int .i64 (n : Int)] w fun en w' => en = .returned (.bool (edOk n e)) ∧ Below w.heap.size w w' := by
  obtain ⟨a, b, c, d⟩ := e
  have HW := Lib.hid within_any
  unfold edOk
  simp only
  have hb0 : Below w.heap.size w (w.alloc (.cells #[.int .i64 a, .int .i64 b, .int .i64 c, .int .i64 d] 144)) := (Below.refl _ _).alloc (Nat.le_refl _) _
  cases g1 : wi a 1 99 with
  | false =>
    have HZ := Lib.hid g1
    go_enter Try.func153, Try.ntmps153
    go_wp2_with (go_at_call 79; refine (HW.out _ _ _ _).mono ?_; rintro e w' ⟨rfl, rfl⟩)
    go_ret
    exact ⟨rfl, hb0⟩
  | true =>
    cases g2 : wi b 0 ((n : Int) - 1) with
    | false =>
      go_enter Try.func153, Try.ntmps153
      go_wp2_with (go_at_call 79; refine (HW.out _ _ _ _).mono ?_; rintro e w' ⟨rfl, rfl⟩)
      go_ret
      exact ⟨rfl, hb0⟩
    | true =>
      cases g3 : wi c 0 ((n : Int) - 1) with
      | false =>
        go_enter Try.func153, Try.ntmps153
        go_wp2_with (go_at_call 79; refine (HW.out _ _ _ _).mono ?_; rintro e w' ⟨rfl, rfl⟩)
        go_ret
        exact ⟨rfl, hb0⟩
      | true =>
        go_enter Try.func153, Try.ntmps153
        go_wp2_with (go_at_call 79; refine (HW.out _ _ _ _).mono ?_; rintro e w' ⟨rfl, rfl⟩)
        go_ret
        exact ⟨rfl, hb0⟩

set_option maxHeartbeats 2000000 in
theorem implValidGraph (v : Value) (g : Gr) (w : World) (hv : GrV 0 w.heap.size w v g) :
    Calls Try.prog 119 #[v] w fun e w' => e = .returned (.bool (grOk g)) ∧ Below w.heap.size w w' := by
  obtain ⟨vs, es, rfl, ⟨A1, c1, rfl, hl1, hm1, hx1⟩, ⟨A2, c2, rfl, hl2, hm2, hx2⟩⟩ := hv
  unfold maxLen at hm1 hm2
  have hb0 : Below w.heap.size w (w.alloc (.cells #[.slice A1 g.vals.length c1, .slice A2 g.edges.length c2] 48)) := (Below.refl _ _).alloc (Nat.le_refl _) _
  have HW := Lib.hid within_any
  have HX1 := Lib.hid hx1
  have HX2 := Lib.hid hx2
  clear hx1 hx2
  go_enter Try.func119, Try.ntmps119
  go_wp2_with fail
  go_loop [14] (fun ii => ∃ i : Nat, i ≤ g.vals.length ∧ ii = .int .i64 i ∧ (g.vals.take i).all (fun v => wi v 0 2) = true) (fun ii => g.vals.length - (intOf ii).toNat)
  case atStart => exact ⟨0, Nat.zero_le _, rfl, rfl⟩
  case round =>
    obtain ⟨i, hi, rfl, hall⟩ := hrel
    have HA := Lib.hid hall
    clear hall
    by_cases hlt : i < g.vals.length
    · have hxi : g.vals[i]? = some g.vals[i] := List.getElem?_eq_getElem hlt
      obtain ⟨b, o, rfl, -, hb1, hc⟩ := HX1.out i _ hxi
      generalize g.vals[i] = x at hc hxi
      have c0 := hc 0 _ rfl
      simp only [Nat.mul_one, Nat.add_zero] at c0
      have HX := Lib.hid hxi
      clear hc hxi
      cases g4 : wi x 0 2 with
      | true =>
        have G4 := Lib.hid g4
        go_wp2_with (go_at_call 79; refine (HW.out _ _ _ _).mono ?_; rintro e w' ⟨rfl, rfl⟩)
        go_round
        case rel => exact ⟨i + 1, by omega, by go_num, all_take_succ HX.out HA.out G4.out⟩
        case measure => simp [intOf]; omega
      | false =>
        have hfin : grOk g = false := by
          rw [grOk, all_false_of HX.out g4]
          rfl
        have HF := Lib.hid hfin
        clear hfin
        go_wp2_with (go_at_call 79; refine (HW.out _ _ _ _).mono ?_; rintro e w' ⟨rfl, rfl⟩)
        go_ret
        exact ⟨by rw [HF.out]; rfl, hb0⟩
    · obtain rfl : i = g.vals.length := by omega
      have hallv : g.vals.all (fun v => wi v 0 2) = true := by have := HA.out; rwa [List.take_length] at this
      have HV := Lib.hid hallv
      clear hallv HA
      go_wp2_with fail
      go_loopw [25] (fun ii wr => ∃ (i : Nat) (u : World), i ≤ g.edges.length ∧ ii = .int .i64 i ∧ (List.range i).all (edAt g.vals.length g.edges) = true ∧ wr = ext (w.alloc (.cells #[.slice A1 g.vals.length c1, .slice A2 g.edges.length c2] 48)) u) (fun ii _ => g.edges.length - (intOf ii).toNat)
      case atStart => exact ⟨0, _, Nat.zero_le _, rfl, rfl, ext_self _⟩
      case round =>
        obtain ⟨i, u, hi, rfl, hall, rfl⟩ := hrel
        have HA := Lib.hid hall
        clear hall
        by_cases hlt : i < g.edges.length
        · have hxi : g.edges[i]? = some g.edges[i] := List.getElem?_eq_getElem hlt
          obtain ⟨b, o', rfl, -, hb1, hc⟩ := HX2.out i _ hxi
          generalize g.edges[i] = x at hc hxi
          have c0 := hc 0 _ rfl
          have c1' := hc 1 _ rfl
          have c2' := hc 2 _ rfl
          have c3 := hc 3 _ rfl
          simp only [Nat.add_zero] at c0
          have HX := Lib.hid hxi
          have hlen : g.vals.length ≤ 9223372036854775807 := by omega
          clear hc hxi
          have hgr : grOk g = ((List.range g.edges.length).all (edAt g.vals.length g.edges) && wi g.vals.length 1 5 && decide (g.edges.length ≤ 12)) := by
            rw [grOk, HV.out]; rfl
          have HGR := Lib.hid hgr
          clear hgr
          cases g4 : edOk g.vals.length x with
          | false =>
            have hfin : grOk g = false := by
              rw [HGR.out, range_all_false hlt (by rw [edAt, HX.out]; simp [g4])]
              rfl
            have HF := Lib.hid hfin
            clear hfin
            go_wp2_with fail
            refine wp_region_ext_lit (by kernel_rfl) (by kernel_rfl) ?_
            repeat (go_big_quiet_step ((go_at_call 153; exact Calls.ext_of (edgeOk_any x g.vals.length _ hlen))))
            refine wpQuiet_nil ?_
            intro _ hw'
            obtain ⟨u2, hw''⟩ := hw'
            subst hw''
            go_wp2_with fail
            go_ret
            exact ⟨by rw [HF.out]; rfl, below_trans hb0 (below_trans (ext_below _ _) (below_trans ((Below.refl _ _).alloc (Nat.le_refl _) _) (ext_below _ _)))⟩
          | true =>
            have G4 := Lib.hid g4
            have hbx : ∀ o u2, ∃ z, ext ((ext (w.alloc (.cells #[.slice A1 g.vals.length c1, .slice (some ⟨b, o', none⟩) g.edges.length c2] 48)) u).alloc o) u2 = ext (w.alloc (.cells #[.slice A1 g.vals.length c1, .slice (some ⟨b, o', none⟩) g.edges.length c2] 48)) z :=
              fun o u2 => ext_of (below_trans (ext_below _ _) (below_trans ((Below.refl _ _).alloc (Nat.le_refl _) _) (ext_below _ _)))
            by_cases hi0 : i = 0
            · subst hi0
              have hat : edAt g.vals.length g.edges 0 = true := by rw [edAt, HX.out]; simp [G4.out]
              have HAT := Lib.hid hat
              clear hat
              simp only [Nat.zero_mul, Nat.add_zero, Nat.zero_add] at c0 c1' c2' c3
              go_wp2_with fail
              refine wp_region_ext_lit (by kernel_rfl) (by kernel_rfl) ?_
              repeat (go_big_quiet_step ((go_at_call 153; exact Calls.ext_of (edgeOk_any x g.vals.length _ hlen))))
              refine wpQuiet_nil ?_
              intro _ hw'
              obtain ⟨u2, hw''⟩ := hw'
              subst hw''
              go_wp2_with fail
              go_roundw
              case rel =>
                obtain ⟨z, hz⟩ := hbx _ u2
                exact ⟨1, z, by omega, by go_num, range_all_succ HA.out HAT.out, hz⟩
              case measure => simp [intOf]; omega
            · have hi1 : 0 < i := by omega
              have hxj : g.edges[i - 1]? = some g.edges[i - 1] := List.getElem?_eq_getElem (by omega)
              obtain ⟨b9, o9, ho9, -, -, hcj⟩ := HX2.out (i - 1) _ hxj
              obtain ⟨rfl, rfl⟩ : b = b9 ∧ o' = o9 := by injection ho9 with h1; injection h1 with h1 h2; exact ⟨h1, h2⟩
              generalize g.edges[i - 1] = p at hcj hxj
              have hb1' : b < w.heap.size + 1 := by omega
              have p0 := hcj 0 _ rfl
              simp only [Nat.add_zero] at p0
              have HXJ := Lib.hid hxj
              have hi00 : ((i : Int) > 0) := by omega
              clear hcj hxj ho9
              by_cases hlt2 : p.1 < x.1
              · have hat : edAt g.vals.length g.edges i = true := by rw [edAt, HX.out]; simp [G4.out, HXJ.out, hlt2]
                have hge : decide (p.1 ≥ x.1) = false := by simp; omega
                have HAT := Lib.hid hat
                clear hat
                go_wp2_with fail
                have q1 : IntKind.i64.wrap ((i : Int) - 1) = (i : Int) - 1 := IntWalk.i64_in _ (by omega)
                have q2 : 0 ≤ (i : Int) - 1 := by omega
                have q3 : (i : Int) - 1 < (g.edges.length : Int) := by omega
                have q4 : ((i : Int) - 1).toNat = i - 1 := by omega
                refine wp_region_ext_lit (by kernel_rfl) (by kernel_rfl) ?_
                repeat (go_big_quiet_step ((go_at_call 153; exact Calls.ext_of (edgeOk_any x g.vals.length _ hlen))))
                refine wpQuiet_nil ?_
                intro _ hw'
                obtain ⟨u2, hw''⟩ := hw'
                subst hw''
                clear q1 q2 q3 q4
                go_wp2_with fail
                go_roundw
                case rel =>
                  obtain ⟨z, hz⟩ := hbx _ u2
                  exact ⟨i + 1, z, by omega, by go_num, range_all_succ HA.out HAT.out, hz⟩
                case measure => simp [intOf]; omega
              · have hfin : grOk g = false := by
                  rw [HGR.out, range_all_false hlt (by rw [edAt, HX.out]; simp [G4.out, HXJ.out, hi0]; omega)]
                  rfl
                have hge : decide (p.1 ≥ x.1) = true := by simp; omega
                have HF := Lib.hid hfin
                clear hfin
                go_wp2_with fail
                have q1 : IntKind.i64.wrap ((i : Int) - 1) = (i : Int) - 1 := IntWalk.i64_in _ (by omega)
                have q2 : 0 ≤ (i : Int) - 1 := by omega
                have q3 : (i : Int) - 1 < (g.edges.length : Int) := by omega
                have q4 : ((i : Int) - 1).toNat = i - 1 := by omega
                refine wp_region_ext_lit (by kernel_rfl) (by kernel_rfl) ?_
                repeat (go_big_quiet_step ((go_at_call 153; exact Calls.ext_of (edgeOk_any x g.vals.length _ hlen))))
                refine wpQuiet_nil ?_
                intro _ hw'
                obtain ⟨u2, hw''⟩ := hw'
                subst hw''
                clear q1 q2 q3 q4
                go_wp2_with fail
                go_ret
                exact ⟨by rw [HF.out]; rfl, below_trans hb0 (below_trans (ext_below _ _) (below_trans ((Below.refl _ _).alloc (Nat.le_refl _) _) (ext_below _ _)))⟩
        · obtain rfl : i = g.edges.length := by omega
          have hgr : grOk g = (wi g.vals.length 1 5 && decide (g.edges.length ≤ 12)) := by
            rw [grOk, HV.out, HA.out]; rfl
          have HGR := Lib.hid hgr
          clear hgr HA HV
          cases g5 : wi g.vals.length 1 5 with
          | false =>
            rw [g5] at HGR
            go_wp2_with (go_at_call 79; refine (HW.out _ _ _ _).mono ?_; rintro e w' ⟨rfl, rfl⟩)
            go_ret
            exact ⟨by rw [HGR.out]; rfl, below_trans hb0 (ext_below _ _)⟩
          | true =>
            rw [g5] at HGR
            have HG5 := Lib.hid g5
            by_cases g6 : g.edges.length ≤ 12
            · have g6' : decide ((g.edges.length : Int) ≤ 12) = true := by simp; omega
              have hfin : grOk g = true := by rw [HGR.out]; simp [g6]
              have HF := Lib.hid hfin
              clear hfin HGR
              go_wp2_with (go_at_call 79; refine (HW.out _ _ _ _).mono ?_; rintro e w' ⟨rfl, rfl⟩)
              go_ret
              exact ⟨by rw [HF.out]; rfl, below_trans hb0 (ext_below _ _)⟩
            · have g6' : decide ((g.edges.length : Int) ≤ 12) = false := by simp; omega
              have hfin : grOk g = false := by rw [HGR.out]; simp [g6]
              have HF := Lib.hid hfin
              clear hfin HGR
              go_wp2_with (go_at_call 79; refine (HW.out _ _ _ _).mono ?_; rintro e w' ⟨rfl, rfl⟩)
              go_ret
              exact ⟨by rw [HF.out]; rfl, below_trans hb0 (ext_below _ _)⟩
/-- slices.IndexFunc over edges, at EdgeIndex's closure -/
theorem indexFuncEdge (k0 : Value) (v : Value) (xs : List Ed) (p : Ed → Prop) (w : World) (hv : SlE w cEd 4 v xs)
    (hF : ∀ x ∈ xs, ∀ W : World, Below w.heap.size w W → Calls Try.prog 172 #[.agg #[.int .i64 x.1, .int .i64 x.2.1, .int .i64 x.2.2.1, .int .i64 x.2.2.2], k0] W fun e W' => ∃ b, e = .returned (.bool b) ∧ (b = true ↔ p x) ∧ Below W.heap.size W W') :
    Calls Try.prog 171 #[v, .func (Fn.func 172) #[] #[k0]] w fun e w' => ∃ r : Int, e = .returned (.int .i64 r) ∧ Below w.heap.size w w' ∧
      ((r = -1 ∧ ∀ x ∈ xs, ¬ p x) ∨ ∃ (i : Nat) (x : Ed), r = i ∧ xs[i]? = some x ∧ p x ∧ ∀ y ∈ xs.take i, ¬ p y) := by
  obtain ⟨A, c, rfl, hl, hm, hx⟩ := hv
  unfold maxLen at hm
  have HF := Lib.hid hF
  have HX := Lib.hid hx
  clear hF hx
  go_enter Try.func171, Try.ntmps171
  go_wp2_with fail
  go_loopw [8] (fun ii wr => ∃ (i : Nat) (u : World), i ≤ xs.length ∧ ii = .int .i64 i ∧ (∀ y ∈ xs.take i, ¬ p y) ∧ wr = ext w u) (fun ii _ => xs.length - (intOf ii).toNat)
  case atStart => exact ⟨0, w, Nat.zero_le _, rfl, by simp, ext_self w⟩
  case round =>
    obtain ⟨i, u, hi, rfl, hno, rfl⟩ := hrel
    have HN := Lib.hid hno
    clear hno
    by_cases hlt : i < xs.length
    · have hxi : xs[i]? = some xs[i] := List.getElem?_eq_getElem hlt
      generalize xs[i] = x at hxi
      obtain ⟨b, o, rfl, -, hb, hc⟩ := HX.out i x hxi
      have c0 := hc 0 _ rfl
      have c1' := hc 1 _ rfl
      have c2' := hc 2 _ rfl
      have c3 := hc 3 _ rfl
      simp only [Nat.add_zero] at c0
      have HXI := Lib.hid hxi
      clear hc hxi
      go_wp2_with fail
      refine (HF.out x (List.mem_of_getElem? HXI.out) _ (ext_below w u)).mono ?_
      rintro e w1 ⟨bb, rfl, hbb, hb1⟩
      have HBB := Lib.hid hbb
      clear hbb
      cases bb with
      | true =>
        go_wp2_with fail
        go_ret
        exact ⟨_, rfl, below_trans (ext_below w u) hb1, .inr ⟨i, x, rfl, HXI.out, HBB.out.1 (by first | rfl | trivial), HN.out⟩⟩
      | false =>
        go_wp2_with fail
        go_roundw
        case rel =>
          obtain ⟨z, hz⟩ := ext_of (below_trans (ext_below w u) hb1)
          refine ⟨i + 1, z, by omega, by go_num, fun y hy => ?_, hz⟩
          rw [take_snoc HXI.out] at hy
          rcases List.mem_append.1 hy with hy | hy
          · exact HN.out y hy
          · have : y = x := by simpa using hy
            subst this
            exact fun h => by have := HBB.out.2 h; cases this
        case measure => simp [intOf]; omega
    · obtain rfl : i = xs.length := by omega
      go_wp2_with fail
      go_ret
      exact ⟨_, rfl, ext_below w u, .inl ⟨rfl, fun x hx => HN.out x (by rw [List.take_length]; exact hx)⟩⟩

set_option maxHeartbeats 1000000 in
theorem implEdgeIndex (v : Value) (g : Gr) (id : Int) (w : World) (hv : GrV 0 w.heap.size w v g) :
    Calls Try.prog 166 #[v, .int .i64 id] w fun e w' => e = .returned (.int .i64 (edgeIdx g id)) ∧ Below w.heap.size w w' := by
  obtain ⟨vs, es, rfl, -, hes⟩ := hv
  have hb0 : Below w.heap.size w ((w.alloc (.cells #[vs, es] 48)).alloc (.cells #[.int .i64 id] 3)) := ((Below.refl _ _).alloc (Nat.le_refl _) _).alloc (by simp) _
  have b1 := Blk.new (w.alloc (.cells #[vs, es] 48)) 3 #[.int .i64 id] (w.heap.size + 1) (by simp)
  go_enter Try.func166, Try.ntmps166
  go_wp2_with fail
  refine (indexFuncEdge _ es g.edges (fun e => e.1 = id) _ (SlE.keep hes hb0) (fun x hx W hW => ?_)).mono ?_
  · have b1' := b1.keep hW
    have y0 : W.cell? ⟨w.heap.size + 1, 0, none⟩ = some _ := b1'.cell 0
    have hlt := b1'.lt
    clear hb0 b1 b1' hW
    obtain ⟨x1, x2, x3, x4⟩ := x
    go_enter Try.func172, Try.ntmps172
    go_wp2_with fail
    go_ret
    refine ⟨_, rfl, by simp, (Below.refl _ _).alloc (Nat.le_refl _) _⟩
  · rintro e w1 ⟨r, rfl, hb1, hr⟩
    have hfin : edgeIdx g id = r := by
      rcases hr with ⟨rfl, h⟩ | ⟨i, x, rfl, hx, hp, hno⟩
      · exact edgeIdx_none h
      · exact edgeIdx_some hx hp hno
    subst hfin
    clear hr
    go_wp2_with fail
    go_ret
    exact ⟨rfl, below_trans hb0 hb1⟩
end Go.Proofs.Ytmlfkledhnlkeaa

/- The program's bothOk: a graph, an automaton and nodes are valid. -/
namespace Go.Proofs.Ytmlfkledhnlkeaa
set_option linter.unusedVariables false
set_option linter.unusedSimpArgs false
open Go.ChangeShapes Go.WideShapes Go.ChangeAt Go.RowKit
attribute [local go_sem] ext_cell ext_frozen ext_lt ext_lt1 ext_lt2 ext_lt3 ltn2 ltn3 ltn13 lts1 lts2 lts3

set_option maxHeartbeats 1000000 in
theorem bothOk_any (vg va lv : Value) (g : Gr) (a : Au) (ss : List Int) (w : World) (hg : GrV 0 w.heap.size w vg g) (ha : AuV 0 w.heap.size w va a) (hl : SlE w cI 1 lv ss) :
    Calls Try.prog 71 #[vg, va, lv] w fun e w' => e = .returned (.bool (ss.all (fun s => wi s 0 ((g.vals.length : Int) - 1)) && (grOk g && auOk a))) ∧ Below w.heap.size w w' := by
  have hg0 := hg
  have ha0 := ha
  obtain ⟨A1, c1, A2, c2, rfl, hl1, hm1, -, -, -, -⟩ := hg.form
  obtain ⟨A3, n3, c3, A4, n4, c4, rfl⟩ := ha.shape
  obtain ⟨A5, c5, rfl, hl5, hm5, hC5⟩ := hl.form
  have HG := Lib.hid hg0
  have HA := Lib.hid ha0
  have HC5 := Lib.hid hC5
  have HW := Lib.hid within_any
  have hb0 : Below w.heap.size w ((w.alloc (.cells #[.slice A1 g.vals.length c1, .slice A2 g.edges.length c2] 48)).alloc (.cells #[.int .i64 a.start, .slice A3 n3 c3, .slice A4 n4 c4] 50)) := ((Below.refl _ _).alloc (Nat.le_refl _) _).alloc (by simp) _
  clear hg ha hl hg0 ha0 hC5
  go_enter Try.func71, Try.ntmps71
  go_wp2_with fail
  go_loop [11] (fun ii => ∃ i : Nat, i ≤ ss.length ∧ ii = .int .i64 i ∧ (ss.take i).all (fun s => wi s 0 ((g.vals.length : Int) - 1)) = true) (fun ii => ss.length - (intOf ii).toNat)
  case atStart => exact ⟨0, Nat.zero_le _, rfl, rfl⟩
  case round =>
    obtain ⟨i, hi, rfl, hall⟩ := hrel
    have HALL := Lib.hid hall
    clear hall
    by_cases hlt : i < ss.length
    · have hxi : ss[i]? = some ss[i] := List.getElem?_eq_getElem hlt
      generalize ss[i] = s at hxi
      obtain ⟨b, o, rfl, hb1, c0⟩ := HC5.out.int hxi
      have HX := Lib.hid hxi
      clear hxi
      by_cases g4 : wi s 0 ((g.vals.length : Int) - 1) = true
      · go_wp2_with (go_at_call 79; refine (HW.out _ _ _ _).mono ?_; rintro e w' ⟨rfl, rfl⟩)
        go_round
        case rel => exact ⟨i + 1, by omega, by go_num, all_take_succ HX.out HALL.out g4⟩
        case measure => simp [intOf]; omega
      · simp only [Bool.not_eq_true] at g4
        have hfin : ss.all (fun s => wi s 0 ((g.vals.length : Int) - 1)) = false := all_false_of HX.out g4
        have HF := Lib.hid hfin
        clear hfin
        go_wp2_with (go_at_call 79; refine (HW.out _ _ _ _).mono ?_; rintro e w' ⟨rfl, rfl⟩)
        go_ret
        exact ⟨by rw [HF.out]; rfl, hb0⟩
    · obtain rfl : i = ss.length := by omega
      have hfin : ss.all (fun s => wi s 0 ((g.vals.length : Int) - 1)) = true := by have := HALL.out; rwa [List.take_length] at this
      have HF := Lib.hid hfin
      clear hfin
      go_wp2_with fail
      refine (implValidGraph _ g _ (HG.out.keep hb0)).mono ?_
      rintro e w1 ⟨he, hb1⟩
      obtain ⟨u1, rfl⟩ := ext_of hb1
      have hb2 := below_trans hb0 hb1
      clear hb1
      subst he
      cases hgo : grOk g with
      | false =>
        have HGO := Lib.hid hgo
        clear hgo
        go_wp2_with fail
        go_ret
        exact ⟨by rw [HF.out, HGO.out]; rfl, hb2⟩
      | true =>
        have HGO := Lib.hid hgo
        clear hgo
        go_wp2_with fail
        refine (implValidAutomaton _ a _ (HA.out.keep hb2)).mono ?_
        rintro e w2 ⟨rfl, hb3⟩
        go_wp2_with fail
        go_ret
        exact ⟨by rw [HF.out, HGO.out]; rfl, below_trans hb2 hb3⟩
end Go.Proofs.Ytmlfkledhnlkeaa

