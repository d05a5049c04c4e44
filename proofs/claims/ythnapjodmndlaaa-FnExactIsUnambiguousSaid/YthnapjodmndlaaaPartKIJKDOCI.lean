/- Parts of the proof, joined into one text: GreM, TwnM, View, Bits, Grow, Keep, PosV, OpenPos. -/
import Derived.Test.YthnapjodmndlaaaPartBGGGGECN
import Derived.Laws.BitsAll
import Derived.IntWalk
import Derived.Deep.RegionHeld
import Derived.Deep.DeepCutAuto
/- Plain: the least word of the least length that leads from a set to the vertices of number 0; the numbers are distances. -/
namespace Go.Proofs.Ythnapjodmndlaaa
set_option linter.unusedVariables false
set_option linter.unusedSimpArgs false

section
variable {τ : Type} (M : Nat) (nx : Nat → τ → List τ) (D : τ → Int)
/-- letter k leads from S to a vertex of number n -/
def leadsT (S : List τ) (n : Nat) (k : Nat) : Bool := S.any fun t => (nx k t).any fun x => decide (D x = (n : Int))
def letT (S : List τ) (n : Nat) : Option Nat := (List.range M).find? (leadsT nx D S n)
def nowT (S : List τ) (n k : Nat) : List τ := S.flatMap fun t => (nx k t).filter fun x => decide (D x = (n : Int))
def wordT : Nat → List τ → List Nat
  | 0, _ => []
  | n + 1, S => match letT M nx D S n with
    | none => []
    | some k => k :: wordT n (nowT nx D S n k)
variable {M nx D}
theorem leadsT_iff {S : List τ} {n k : Nat} : leadsT nx D S n k = true ↔ ∃ t ∈ S, ∃ x ∈ nx k t, D x = (n : Int) := by
  simp [leadsT, List.any_eq_true]
theorem mem_nowT {S : List τ} {n k : Nat} {x : τ} : x ∈ nowT nx D S n k ↔ (∃ t ∈ S, x ∈ nx k t) ∧ D x = (n : Int) := by
  simp only [nowT, List.mem_flatMap, List.mem_filter, decide_eq_true_eq]
  constructor
  · rintro ⟨t, ht, h1, h2⟩; exact ⟨⟨t, ht, h1⟩, h2⟩
  · rintro ⟨⟨t, ht, h1⟩, h2⟩; exact ⟨t, ht, h1, h2⟩
/-- only what lies in the set counts, not its order -/
theorem leadsT_congr {S S' : List τ} (h : ∀ t, t ∈ S ↔ t ∈ S') (n k : Nat) : leadsT nx D S n k = leadsT nx D S' n k := by
  rw [Bool.eq_iff_iff, leadsT_iff, leadsT_iff]
  constructor <;> rintro ⟨t, ht, r⟩
  · exact ⟨t, (h t).1 ht, r⟩
  · exact ⟨t, (h t).2 ht, r⟩
theorem letT_congr {S S' : List τ} (h : ∀ t, t ∈ S ↔ t ∈ S') (n : Nat) : letT M nx D S n = letT M nx D S' n := by
  rw [letT, letT, show leadsT nx D S n = leadsT nx D S' n from funext fun k => leadsT_congr h n k]
theorem wordT_congr : ∀ {n : Nat} {S S' : List τ}, (∀ t, t ∈ S ↔ t ∈ S') → wordT M nx D n S = wordT M nx D n S'
  | 0, _, _, _ => rfl
  | n + 1, S, S', h => by
    rw [wordT, wordT, letT_congr h]
    cases letT M nx D S' n with
    | none => rfl
    | some k =>
      simp only
      rw [wordT_congr (S := nowT nx D S n k) (S' := nowT nx D S' n k)]
      intro x
      rw [mem_nowT, mem_nowT]
      constructor <;> rintro ⟨⟨t, ht, r⟩, r2⟩
      · exact ⟨⟨t, (h t).1 ht, r⟩, r2⟩
      · exact ⟨⟨t, (h t).2 ht, r⟩, r2⟩
/-- from a vertex of number n + 1 a letter leads to number n -/
theorem letT_some {S : List τ} {n : Nat} (hk : ∃ t ∈ S, ∃ k, k < M ∧ ∃ x ∈ nx k t, D x = (n : Int)) : ∃ k, letT M nx D S n = some k ∧ k < M ∧ leadsT nx D S n k = true ∧ ∀ j, j < k → leadsT nx D S n j = false := by
  obtain ⟨t, ht, k0, hk0, x, hx, hd⟩ := hk
  have h0 : leadsT nx D S n k0 = true := leadsT_iff.2 ⟨t, ht, x, hx, hd⟩
  cases hf : letT M nx D S n with
  | none =>
    have h1 := List.find?_eq_none.1 hf k0 (List.mem_range.2 hk0)
    exact absurd h0 h1
  | some k =>
    have h1 := List.find?_eq_some_iff_getElem.1 hf
    obtain ⟨h2, i, hi, h3, h4⟩ := h1
    rw [List.getElem_range] at h3
    subst h3
    rw [List.length_range] at hi
    refine ⟨i, rfl, hi, h2, fun j hj => ?_⟩
    have := h4 j hj
    rw [List.getElem_range] at this
    simpa using this
theorem wordT_step {S : List τ} {n k : Nat} (hM : k < M) (h : leadsT nx D S n k = true) (h2 : ∀ j, j < k → leadsT nx D S n j = false) : wordT M nx D (n + 1) S = k :: wordT M nx D n (nowT nx D S n k) := by
  obtain ⟨t, ht, x, hx, hd⟩ := leadsT_iff.1 h
  obtain ⟨k', e, -, h3, h4⟩ := letT_some (M := M) ⟨t, ht, k, hM, x, hx, hd⟩
  have : k' = k := by
    rcases Nat.lt_trichotomy k' k with h5 | h5 | h5
    · rw [h2 k' h5] at h3; cases h3
    · exact h5
    · rw [h4 k h5] at h; cases h
  subst this
  rw [wordT, e]
theorem nowT_ne {S : List τ} {n k : Nat} (h : leadsT nx D S n k = true) : ∃ x, x ∈ nowT nx D S n k := by
  obtain ⟨t, ht, x, hx, hd⟩ := leadsT_iff.1 h
  exact ⟨x, mem_nowT.2 ⟨⟨t, ht, hx⟩, hd⟩⟩
end
end Go.Proofs.Ythnapjodmndlaaa

/- Position automata, plainly: what is behind a letter; pairs of runs and the word that shows two. -/
namespace Go.Proofs.Ythnapjodmndlaaa
set_option linter.unusedVariables false
set_option linter.unusedSimpArgs false

structure Pz where
  lets : List Int
  first : Int
  last : Int
  fol : List Int
  nul : Bool
def setP (n : Nat) (s : Int) : Bool := decide (0 ≤ s) && decide (s ≤ 2 ^ n - 1)
def pzOk (p : Pz) : Bool := decide (p.lets.length ≤ 20) && (decide (p.fol.length = p.lets.length) && ((p.lets.all fun k => decide (0 ≤ k) && decide (k ≤ 8)) && (p.fol.all (setP p.lets.length) && (setP p.lets.length p.first && setP p.lets.length p.last))))
/-- the positions that follow a set -/
def folP (p : Pz) (s : Nat) (i : Nat) : Nat := (List.range i).foldl (fun m j => if s.testBit (j + 1) = true then m ||| (p.fol.getD j 0).toNat else m) (if s.testBit 0 = true then p.first.toNat else 0)
def aftI (p : Pz) (m : Nat) (k : Int) (i : Nat) : Nat := (List.range i).foldl (fun o j => if (m.testBit j && decide (p.lets.getD j 0 = k)) = true then ins o (j + 1) else o) 0
def aftP (p : Pz) (s : Nat) (k : Int) : Nat := aftI p (folP p s p.lets.length) k p.lets.length
def accP (p : Pz) (s : Nat) : Bool := (s.testBit 0 && p.nul) || decide (s >>> 1 &&& p.last.toNat ≠ 0)
theorem aftI_bit (p : Pz) (m : Nat) (k : Int) (t : Nat) : ∀ i, (aftI p m k i).testBit t = true ↔ ∃ j, j < i ∧ t = j + 1 ∧ m.testBit j = true ∧ p.lets.getD j 0 = k := by
  intro i
  induction i with
  | zero => simp [aftI]
  | succ i ih =>
    have e : aftI p m k (i + 1) = if (m.testBit i && decide (p.lets.getD i 0 = k)) = true then ins (aftI p m k i) (i + 1) else aftI p m k i := by
      rw [aftI, List.range_succ, List.foldl_append]; rfl
    rw [e]
    split
    · rename_i h
      rw [Bool.and_eq_true, decide_eq_true_eq] at h
      rw [ins_test, Bool.or_eq_true, ih, decide_eq_true_eq]
      constructor
      · rintro (⟨j, h1, h2⟩ | rfl)
        · exact ⟨j, by omega, h2⟩
        · exact ⟨i, by omega, rfl, h⟩
      · rintro ⟨j, h1, h2, h3⟩
        by_cases hj : j = i
        · subst hj; exact .inr h2.symm
        · exact .inl ⟨j, by omega, h2, h3⟩
    · rename_i h
      rw [Bool.and_eq_true, decide_eq_true_eq] at h
      rw [ih]
      constructor
      · rintro ⟨j, h1, h2⟩; exact ⟨j, by omega, h2⟩
      · rintro ⟨j, h1, h2, h3⟩
        by_cases hj : j = i
        · subst hj; exact absurd h3 h
        · exact ⟨j, by omega, h2, h3⟩
theorem aftP_bit {p : Pz} {s t : Nat} {k : Int} (h : (aftP p s k).testBit t = true) : 1 ≤ t ∧ t ≤ p.lets.length := by
  obtain ⟨j, h1, rfl, -⟩ := (aftI_bit p _ k t _).1 h
  omega
/-- two states and whether the runs differ -/
abbrev Twn := Nat × Nat × Bool
def twnX (p : Pz) (k : Nat) (t : Twn) : List Twn := (mem 21 (aftP p (bit t.1) (k : Int))).flatMap fun i => (mem 21 (aftP p (bit t.2.1) (k : Int))).map fun j => (i, j, t.2.2 || decide (i ≠ j))
def twnG (p : Pz) (t : Twn) : Bool := t.2.2 && (accP p (bit t.1) && accP p (bit t.2.1))
def slotT (t : Twn) : Nat := 2 * (t.1 * 21 + t.2.1) + (if t.2.2 = true then 1 else 0)
theorem slotT_inj {t u : Twn} (h1 : t.2.1 ≤ 20) (h2 : u.2.1 ≤ 20) (h : slotT t = slotT u) : t = u := by
  obtain ⟨a, b, c⟩ := t
  obtain ⟨a', b', c'⟩ := u
  simp only [slotT] at h h1 h2
  cases c <;> cases c' <;> simp only [Bool.false_eq_true, if_false, if_true] at h <;> first | omega | (have e1 : a = a' := (by omega); have e2 : b = b' := (by omega); rw [e1, e2])
/-- behind a letter no state is the first one -/
theorem twnX_in {p : Pz} {k : Nat} {t x : Twn} (h : x ∈ twnX p k t) (hp : p.lets.length ≤ 20) : (1 ≤ x.1 ∧ x.1 ≤ 20) ∧ (1 ≤ x.2.1 ∧ x.2.1 ≤ 20) ∧ x.2.2 = (t.2.2 || decide (x.1 ≠ x.2.1)) := by
  rw [twnX, List.mem_flatMap] at h
  obtain ⟨i, hi, h⟩ := h
  obtain ⟨j, hj, rfl⟩ := List.mem_map.1 h
  have h1 := aftP_bit (mem_mem.1 hi).2
  have h2 := aftP_bit (mem_mem.1 hj).2
  exact ⟨⟨h1.1, by simp only; omega⟩, ⟨h2.1, by simp only; omega⟩, rfl⟩
end Go.Proofs.Ythnapjodmndlaaa

/- Valid graphs and automata in memory: their shape and their cells, ready for a walk. Nothing of the program. -/
namespace Go.Proofs.Ythnapjodmndlaaa
set_option linter.unusedVariables false
set_option linter.unusedSimpArgs false
open Go.ChangeShapes Go.WideShapes Go.ChangeAt Go.RowKit

theorem bcell {w w' : World} (hb : Below w.heap.size w w') {b o : Nat} {v : Value} (h : w.cell? ⟨b, o, none⟩ = some v) (hl : b < w.heap.size) : w'.cell? ⟨b, o, none⟩ = some v := (hb.cell (p := ⟨b, o, none⟩) hl).trans h

/-- slice value v, of n elements, at A with capacity c; element i (k cells E x) lies in a block below H -/
structure SlC {α : Type} (H : Nat) (w : World) (E : α → List Value) (k : Nat) (A : Option Addr) (xs : List α) : Prop where
  at_ : ∀ i x, xs[i]? = some x → ∃ b o, A = some ⟨b, o, none⟩ ∧ b < H ∧ ∀ j u, (E x)[j]? = some u → w.cell? ⟨b, o + i * k + j, none⟩ = some u
theorem SlE.form {α : Type} {w : World} {E : α → List Value} {k : Nat} {v : Value} {xs : List α} (h : SlE w E k v xs) :
    ∃ A c, v = .slice A xs.length c ∧ xs.length ≤ c ∧ c ≤ 9223372036854775807 ∧ SlC w.heap.size w E k A xs := by
  obtain ⟨A, c, rfl, h1, h2, h3⟩ := h
  exact ⟨A, c, rfl, h1, by simpa [maxLen] using h2, ⟨fun i x hx => by obtain ⟨b, o, e, _, g, h⟩ := h3 i x hx; exact ⟨b, o, e, g, h⟩⟩⟩
theorem SlC.keep {α : Type} {w w' : World} {E : α → List Value} {k : Nat} {A : Option Addr} {xs : List α} (h : SlC w.heap.size w E k A xs) (hb : Below w.heap.size w w') : SlC w'.heap.size w' E k A xs :=
  ⟨fun i x hx => by obtain ⟨b, o, e, g, h⟩ := h.at_ i x hx; exact ⟨b, o, e, Nat.lt_of_lt_of_le g hb.size, fun j u hu => (hb.cell (p := ⟨_, _, none⟩) g).trans (h j u hu)⟩⟩
/-- an int, a bool: one cell -/
theorem SlC.int {H : Nat} {w : World} {A : Option Addr} {xs : List Int} (h : SlC H w cI 1 A xs) {i : Nat} {x : Int} (hx : xs[i]? = some x) : ∃ b o, A = some ⟨b, o, none⟩ ∧ b < H ∧ w.cell? ⟨b, o + i, none⟩ = some (.int .i64 x) := by
  obtain ⟨b, o, e, g, h⟩ := h.at_ i x hx
  exact ⟨b, o, e, g, by simpa using h 0 _ rfl⟩
theorem SlC.bool {H : Nat} {w : World} {A : Option Addr} {xs : List Bool} (h : SlC H w cB 1 A xs) {i : Nat} {x : Bool} (hx : xs[i]? = some x) : ∃ b o, A = some ⟨b, o, none⟩ ∧ b < H ∧ w.cell? ⟨b, o + i, none⟩ = some (.bool x) := by
  obtain ⟨b, o, e, g, h⟩ := h.at_ i x hx
  exact ⟨b, o, e, g, by simpa using h 0 _ rfl⟩
theorem SlC.val {H : Nat} {w : World} {A : Option Addr} {xs : List Value} (h : SlC H w cV 1 A xs) {i : Nat} {x : Value} (hx : xs[i]? = some x) : ∃ b o, A = some ⟨b, o, none⟩ ∧ b < H ∧ w.cell? ⟨b, o + i, none⟩ = some x := by
  obtain ⟨b, o, e, g, h⟩ := h.at_ i x hx
  exact ⟨b, o, e, g, by simpa using h 0 _ rfl⟩
theorem SlC.ed {H : Nat} {w : World} {A : Option Addr} {xs : List Ed} (h : SlC H w cEd 4 A xs) {i : Nat} {e : Ed} (hx : xs[i]? = some e) :
    ∃ b o, A = some ⟨b, o, none⟩ ∧ b < H ∧ w.cell? ⟨b, o + i * 4, none⟩ = some (.int .i64 e.1) ∧ w.cell? ⟨b, o + i * 4 + 1, none⟩ = some (.int .i64 e.2.1) ∧ w.cell? ⟨b, o + i * 4 + 2, none⟩ = some (.int .i64 e.2.2.1) ∧ w.cell? ⟨b, o + i * 4 + 3, none⟩ = some (.int .i64 e.2.2.2) := by
  obtain ⟨b, o, e, g, h⟩ := h.at_ i e hx
  exact ⟨b, o, e, g, by simpa using h 0 _ rfl, h 1 _ rfl, h 2 _ rfl, h 3 _ rfl⟩
theorem SlC.st {H : Nat} {w : World} {A : Option Addr} {xs : List St} (h : SlC H w cSt 2 A xs) {i : Nat} {e : St} (hx : xs[i]? = some e) :
    ∃ b o, A = some ⟨b, o, none⟩ ∧ b < H ∧ w.cell? ⟨b, o + i * 2, none⟩ = some (.int .i64 e.1) ∧ w.cell? ⟨b, o + i * 2 + 1, none⟩ = some (.bool e.2) := by
  obtain ⟨b, o, e, g, h⟩ := h.at_ i e hx
  exact ⟨b, o, e, g, by simpa using h 0 _ rfl, h 1 _ rfl⟩

/-- a valid automaton: the rows lie at A2, each of nine cells -/
structure AuC (w : World) (A1 A2 : Option Addr) (a : Au) : Prop where
  acc : SlC w.heap.size w cB 1 A1 a.accept
  row : ∀ i, i < a.accept.length → ∃ b o b3 o3 c3, A2 = some ⟨b, o, none⟩ ∧ b < w.heap.size ∧ w.cell? ⟨b, o + i, none⟩ = some (.slice (some ⟨b3, o3, none⟩) 9 c3) ∧ 9 ≤ c3 ∧ c3 ≤ 9223372036854775807 ∧ b3 < w.heap.size ∧ ∀ l, l < 9 → w.cell? ⟨b3, o3 + l, none⟩ = some (.int .i64 (mv a i l))
theorem AuV.form {w : World} {v : Value} {a : Au} (h : AuV 0 w.heap.size w v a) (hok : auOk a = true) :
    ∃ A1 c1 A2 c2, v = .agg #[.int .i64 a.start, .slice A1 a.accept.length c1, .slice A2 a.accept.length c2] ∧ a.accept.length ≤ c1 ∧ c1 ≤ 9223372036854775807 ∧ a.accept.length ≤ c2 ∧ c2 ≤ 9223372036854775807 ∧ AuC w A1 A2 a := by
  obtain ⟨⟨-, -⟩, -, hnl, hrk⟩ := auOk_iff.1 hok
  obtain ⟨ac, nx, rfl, h1, us, h2, hul, hrows⟩ := h
  obtain ⟨A1, c1, rfl, h3, h4, h5⟩ := SlE.form h1
  obtain ⟨A2, c2, rfl, h6, h7, h8⟩ := SlE.form h2
  rw [hul, hnl] at h6 ⊢
  refine ⟨A1, c1, A2, c2, rfl, h3, h4, h6, h7, h5, fun i hi => ?_⟩
  have hin : i < a.next.length := by omega
  have hiu : i < us.length := by omega
  have hxi : a.next[i]? = some a.next[i] := List.getElem?_eq_getElem hin
  obtain ⟨b, o, rfl, hb, hc⟩ := h8.val (List.getElem?_eq_getElem hiu)
  have hrl := (rowOk_iff.1 (hrk _ (List.getElem_mem hin))).2
  obtain ⟨A3, c3, hv3, h9, h10, h11⟩ := SlE.form (hrows i us[i] _ (List.getElem?_eq_getElem hiu) hxi)
  rw [hrl] at hv3 h9
  obtain ⟨b3, o3, rfl, hb3, -⟩ := h11.int (i := 0) (List.getElem?_eq_getElem (by omega))
  refine ⟨b, o, b3, o3, c3, rfl, hb, by rw [hc, hv3], h9, h10, hb3, fun l hl => ?_⟩
  have hti : a.next[i][l]? = some a.next[i][l] := List.getElem?_eq_getElem (by omega)
  obtain ⟨b4, o4, he, hb4, hc4⟩ := h11.int hti
  simp only [Option.some.injEq, Addr.mk.injEq, and_true] at he
  obtain ⟨rfl, rfl⟩ := he
  rw [hc4, mv_of hxi hti]
theorem AuC.keep {w w' : World} {A1 A2 : Option Addr} {a : Au} (h : AuC w A1 A2 a) (hb : Below w.heap.size w w') : AuC w' A1 A2 a := by
  refine ⟨h.acc.keep hb, fun i hi => ?_⟩
  obtain ⟨b, o, b3, o3, c3, e, h1, h2, h3, h4, h5, h6⟩ := h.row i hi
  exact ⟨b, o, b3, o3, c3, e, Nat.lt_of_lt_of_le h1 hb.size, (hb.cell (p := ⟨_, _, none⟩) h1).trans h2, h3, h4, Nat.lt_of_lt_of_le h5 hb.size, fun l hl => (hb.cell (p := ⟨_, _, none⟩) h5).trans (h6 l hl)⟩
/-- a graph: values at A1, edges at A2 -/
theorem GrV.form {w : World} {v : Value} {g : Gr} (h : GrV 0 w.heap.size w v g) :
    ∃ A1 c1 A2 c2, v = .agg #[.slice A1 g.vals.length c1, .slice A2 g.edges.length c2] ∧ g.vals.length ≤ c1 ∧ c1 ≤ 9223372036854775807 ∧ g.edges.length ≤ c2 ∧ c2 ≤ 9223372036854775807 ∧ SlC w.heap.size w cI 1 A1 g.vals ∧ SlC w.heap.size w cEd 4 A2 g.edges := by
  obtain ⟨vs, es, rfl, h1, h2⟩ := h
  obtain ⟨A1, c1, rfl, h3, h4, h5⟩ := SlE.form h1
  obtain ⟨A2, c2, rfl, h6, h7, h8⟩ := SlE.form h2
  exact ⟨A1, c1, A2, c2, rfl, h3, h4, h6, h7, h5, h8⟩
theorem WkV.form {w : World} {v : Value} {k : Wk} (h : WkV 0 w.heap.size w v k) :
    ∃ A1 c1, v = .agg #[.int .i64 k.1, .slice A1 k.2.length c1] ∧ k.2.length ≤ c1 ∧ c1 ≤ 9223372036854775807 ∧ SlC w.heap.size w cSt 2 A1 k.2 := by
  obtain ⟨ss, rfl, h1⟩ := h
  obtain ⟨A1, c1, rfl, h3, h4, h5⟩ := SlE.form h1
  exact ⟨A1, c1, rfl, h3, h4, h5⟩
end Go.Proofs.Ythnapjodmndlaaa

/- Ints as sets of small numbers: what Go's shifts, ands and ors come to. -/
namespace Go.Proofs.Ythnapjodmndlaaa
set_option linter.unusedVariables false
set_option linter.unusedSimpArgs false
open Go.ChangeShapes Go.WideShapes Go.ChangeAt Go.RowKit

theorem wrap_small {n : Int} (h0 : 0 ≤ n) (h1 : n < 9223372036854775808) : IntKind.i64.wrap n = n := by rw [IntKind.wrap_i64]; omega
theorem wrap64_small {n : Int} (h0 : 0 ≤ n) (h1 : n < 9223372036854775808) : wrap64 n = n := IntWalk.wrap64_in n ⟨by omega, by omega⟩
theorem i64_and_nat (a b : Nat) (ha : a < 2 ^ 62) (hb : b < 2 ^ 62) : bits .and .i64 (a : Int) (b : Int) = ((a &&& b : Nat) : Int) :=
  (bits_nat .i64 62 (by decide) (fun n h0 h1 => wrap_small h0 (by omega)) a b ha hb).1
theorem i64_or_nat (a b : Nat) (ha : a < 2 ^ 62) (hb : b < 2 ^ 62) : bits .or .i64 (a : Int) (b : Int) = ((a ||| b : Nat) : Int) :=
  (bits_nat .i64 62 (by decide) (fun n h0 h1 => wrap_small h0 (by omega)) a b ha hb).2
theorem shr_nat (m s : Nat) (_ : s ≤ 64) : (m : Int) / 2 ^ s = ((m / 2 ^ s : Nat) : Int) := by
  simp
/-- 1 << s -/
theorem shl_bit {s : Nat} (hs : s < 62) : wrap64 (2 ^ s) = (bit s : Int) := by
  have h1 : (2 : Int) ^ s = ((2 ^ s : Nat) : Int) := by simp
  have h2 : 2 ^ s < 2 ^ 62 := Nat.pow_lt_pow_right (by omega) hs
  rw [h1]
  show _ = ((2 ^ s : Nat) : Int)
  generalize 2 ^ s = k at h2 ⊢
  exact wrap64_small (by omega) (by omega)
theorem shl_bit2 {s : Nat} (hs : s < 62) : IntKind.i64.wrap (2 ^ s) = (bit s : Int) := by
  have h1 : (2 : Int) ^ s = ((2 ^ s : Nat) : Int) := by simp
  have h2 : 2 ^ s < 2 ^ 62 := Nat.pow_lt_pow_right (by omega) hs
  rw [h1]
  show _ = ((2 ^ s : Nat) : Int)
  generalize 2 ^ s = k at h2 ⊢
  exact IntWalk.i64_in _ (by omega)
theorem shl_bit3 {s : Nat} (hs : s < 62) : IntKind.i64.wrap (2 ^ min s 64) = (bit s : Int) := by rw [Nat.min_eq_left (by omega)]; exact shl_bit2 hs
/-- m | 1 << s -/
theorem or_ins {m s : Nat} (hm : m < 2 ^ 62) (hs : s < 62) : bits .or .i64 (m : Int) (bit s : Int) = (ins m s : Int) :=
  i64_or_nat m (bit s) hm (bit_lt hs)
/-- m >> s & 1 -/
theorem and_bit {m s : Nat} (hm : m < 2 ^ 62) (hs : s ≤ 64) : bits .and .i64 ((m : Int) / 2 ^ s) 1 = if m.testBit s = true then 1 else 0 := by
  have h1 : m / 2 ^ s < 2 ^ 62 := Nat.lt_of_le_of_lt (Nat.div_le_self _ _) hm
  rw [shr_nat m s hs, show (1 : Int) = ((1 : Nat) : Int) by rfl, i64_and_nat _ _ h1 (by decide), nat_mask1, Nat.testBit_eq_decide_div_mod_eq]
  have h2 := Nat.mod_two_eq_zero_or_one (m / 2 ^ s)
  rcases h2 with h2 | h2 <;> simp [h2]
theorem bit_on {m s : Nat} (hm : m < 2 ^ 62) (hs : s ≤ 64) (h : m.testBit s = true) : bits .and .i64 ((m : Int) / 2 ^ s) 1 = 1 := by rw [and_bit hm hs, if_pos h]
theorem bit_off {m s : Nat} (hm : m < 2 ^ 62) (hs : s ≤ 64) (h : m.testBit s = false) : bits .and .i64 ((m : Int) / 2 ^ s) 1 = 0 := by rw [and_bit hm hs, if_neg (by simp [h])]
/-- m >> i != 0 -/
theorem shr_on {m i : Nat} (hi : i ≤ 64) (h : 2 ^ i ≤ m) : ((m : Int) / 2 ^ i != 0) = true := by
  rw [shr_nat m i hi]
  have : 0 < m / 2 ^ i := Nat.div_pos h (Nat.two_pow_pos _)
  simp only [bne_iff_ne, ne_eq]; omega
theorem shr_off {m i : Nat} (hi : i ≤ 64) (h : m < 2 ^ i) : ((m : Int) / 2 ^ i != 0) = false := by
  rw [shr_nat m i hi, Nat.div_eq_of_lt h]; rfl
/-- a natural number as one cell -/
def cN (x : Nat) : List Value := [.int .i64 (x : Int)]
theorem cN_len (x : Nat) : (cN x).length = 1 := rfl
theorem cN_one (x : Nat) : ∀ u ∈ cN x, u.oneCell' = true := by intro u hu; simp only [cN, List.mem_cons, List.not_mem_nil, or_false] at hu; subst hu; rfl
theorem SlC.nat {H : Nat} {w : World} {A : Option Addr} {xs : List Nat} (h : SlC H w cN 1 A xs) {i : Nat} {x : Nat} (hx : xs[i]? = some x) : ∃ b o, A = some ⟨b, o, none⟩ ∧ b < H ∧ w.cell? ⟨b, o + i, none⟩ = some (.int .i64 (x : Int)) := by
  obtain ⟨b, o, e, g, h⟩ := h.at_ i x hx
  exact ⟨b, o, e, g, by simpa using h 0 _ rfl⟩
theorem Own.form {α : Type} {lo : Nat} {w : World} {e : TypeId} {E : α → List Value} {k : Nat} {v : Value} {xs : List α} (h : Own lo w.heap.size w e E k v xs) (hE : ∀ x, (E x).length = k) :
    ∃ A c, v = .slice A xs.length c ∧ xs.length ≤ c ∧ c ≤ 9223372036854775807 ∧ SlC w.heap.size w E k A xs := SlE.form ((h.sl hE).all (Nat.le_refl _))
end Go.Proofs.Ythnapjodmndlaaa

/- Laws for slices that the call itself grows or makes: append of one element, of a whole list; make. Over any program. -/
namespace Go.Proofs.Ythnapjodmndlaaa
set_option linter.unusedVariables false
set_option linter.unusedSimpArgs false
open Go.ChangeShapes Go.WideShapes Go.ChangeAt Go.RowKit

/-- what the program's table says of a slice type t of elements e: zero z, k cells, so many bytes -/
structure ElemOk (P : Program) (t e : TypeId) (z : Value) (k bytes : Nat) : Prop where
  und : P.underlying t = some (.slice e)
  info : (P.info? e).map (fun i => (i.zero, i.size, i.bytes)) = some (some z, k, bytes)
  zc : z.cells.size = k
  pos : 0 < k

section
variable {P : Program} {w : World}
theorem own_below {base : Nat} {w' : World} {e : TypeId} {k n : Nat} {v : Value} {cs : List Value} (h : w.ownsRow base e k v n cs) (hb : base ≤ w.heap.size) (hg : w.grownBy w' v.ownBlock) : Below base w w' :=
  (Below.refl _ _).grown hg hb (fun g hg => (h.lt g hg).1)

/-- append(s, x): the one element was laid in a block of its own first -/
theorem wpList_append1 {α : Type} (E : α → List Value) {ops : Array Oper} {rest : List Oper} {o : Oper} {a : Act} {Q : Exit → Act → World → Prop} {t e : TypeId} {z : Value} {k bytes : Nat} (el : ElemOk P t e z k bytes)
    (hgd : o.guard = none) (s y : Operand) (ho : o.op = .call { callee := .builtin .append, args := #[s, y], argTypes := #[t, t] })
    (base : Nat) (v : Value) (xs : List α) (x : α) (cs : Array Value) (c H : Nat) (hs : a.eval s = v) (hown : w.ownsRow base e k v xs.length (xs.flatMap E)) (hy : a.eval y = .slice (some ⟨H, 0, none⟩) 1 c) (hH : H = w.heap.size)
    (hcs : cs = (E x).toArray) (hE : (E x).length = k) (h1 : ∀ u ∈ E x, u.oneCell' = true) (hbytes : (xs.length + 1) * bytes ≤ 140737488355328) (hb0 : 0 < bytes) (hbase : base ≤ w.heap.size)
    (h : ∀ v' w', w'.ownsRow base e k v' (xs ++ [x]).length ((xs ++ [x]).flatMap E) → Below base w w' → (v'.ownBlock = v.ownBlock ∨ ∃ g, v'.ownBlock = some g ∧ w.heap.size ≤ g) → (w.alloc (.cells cs e)).grownBy w' v.ownBlock → wpList P ops Q rest (a.put o.dst v') w') :
    wpList P ops Q (o :: rest) a (w.alloc (.cells cs e)) := by
  subst hcs hH
  obtain ⟨i, hi, hz0, hz1, hz2⟩ := info_parts el.info
  have hlen : xs.length + 1 ≤ 140737488355328 := Nat.le_trans (Nat.le_mul_of_pos_right _ hb0) hbytes
  refine wpList_append_own_at (P := P) (w := w.alloc (.cells (E x).toArray e)) hgd s y t ho base e i z k bytes el.und hi hz0 hz1 hz2 el.zc el.pos v xs.length (xs.flatMap E) hs (hown.alloc _) ⟨w.heap.size, 0, none⟩ 1 c (E x) hy (by rw [hE, Nat.one_mul])
    (fun j u hu => ?_) h1 (by unfold maxLen; omega) hbytes (by simp; omega) ?_
  · have hadd : (⟨w.heap.size, 0, none⟩ : Addr).add j = ⟨w.heap.size, j, none⟩ := by unfold Addr.add; split <;> simp_all
    rw [hadd, World.cell?_alloc_new]
    simpa using hu
  · intro v' w' h2 h3 _ h5
    refine h v' w' (by simpa using h2) ((((Below.refl base w).alloc hbase _)).trans (own_below (hown.alloc _) (by simp; omega) h3)) ?_ h3
    rcases h5 with h5 | h5
    · exact .inl h5
    · exact .inr ⟨_, h5, by simp⟩

theorem getElem?_flat_replicate {α : Type} {E : α → List Value} {k : Nat} {d : α} (hk : (E d).length = k) : ∀ (n j : Nat), ((List.replicate n d).flatMap E)[j]? = if j < n * k then (E d)[j % k]? else none := by
  intro n
  induction n with
  | zero => intro j; simp
  | succ n ih =>
    intro j
    rw [List.replicate_succ, List.flatMap_cons, List.getElem?_append, hk]
    by_cases hj : j < k
    · rw [if_pos hj, if_pos (by rw [Nat.succ_mul]; omega), Nat.mod_eq_of_lt hj]
    · rw [if_neg hj, ih, Nat.succ_mul]
      by_cases h2 : j < n * k + k
      · rw [if_pos h2, if_pos (by omega)]
        congr 1
        conv => rhs; rw [show j = (j - k) + k by omega, Nat.add_mod_right]
      · rw [if_neg h2, if_neg (by omega)]

theorem madeCells_flat {α : Type} {E : α → List Value} {k : Nat} {d : α} {z : Array Value} (hk : (E d).length = k) (hz : z.toList = E d) (hpos : 0 < k) (n : Nat) : (madeCells z (n * k)).toList = (List.replicate n d).flatMap E := by
  apply List.ext_getElem?
  intro j
  rw [getElem?_flat_replicate hk]
  have hzs : z.size = k := by rw [← Array.length_toList, hz, hk]
  by_cases hj : j < n * k
  · rw [if_pos hj]
    have hm : j % k < z.size := by rw [hzs]; exact Nat.mod_lt _ hpos
    have : (E d)[j % k]? = z[j % k]? := by rw [← hz, Array.getElem?_toList]
    rw [this]
    simp [madeCells, hj, hzs, hm, Nat.mod_lt _ hpos]
  · rw [if_neg hj]
    simp [madeCells, hj]

/-- make([]T, n): n zero elements -/
theorem run_makeE {α : Type} (E : α → List Value) (d : α) {t e : TypeId} {z : Value} {k bytes : Nat} (el : ElemOk P t e z k bytes) (hz : z.cells.toList = E d) (hE : (E d).length = k) (n : Nat) (hbytes : bytes * n ≤ 281474976710656) (h63 : n ≤ maxLen) (w : World) :
    ∃ w', (Instr.makeSlice t (.int .i64 (n : Int)) (.int .i64 (n : Int))).run P w = .ok (.slice (some ⟨w.heap.size, 0, none⟩) n n) w' ∧
      w'.ownsRow w.heap.size e k (.slice (some ⟨w.heap.size, 0, none⟩) n n) n ((List.replicate n d).flatMap E) ∧ Below w.heap.size w w' ∧ w'.heap.size = w.heap.size + 1 := by
  obtain ⟨i, hi, hz0, hz1, hz2⟩ := info_parts el.info
  subst hz1 hz2
  have h63' : (n : Int) ≤ 9223372036854775807 := by
    have h := h63
    simp [maxLen] at h
    omega
  have hb' : (i.bytes : Int) * (n : Int) ≤ 281474976710656 := by
    have h : ((i.bytes * n : Nat) : Int) ≤ 281474976710656 := by omega
    rwa [Int.natCast_mul] at h
  have hr := run_make (P := P) w t e i z el.und hi hz0 .i64 .i64 n n (by omega) (Int.le_refl _) hb' h63'
  simp only [Int.toNat_natCast] at hr
  refine ⟨_, hr, ?_, (Below.refl _ _).alloc (Nat.le_refl _) _, by simp⟩
  rw [← madeCells_flat hE hz el.pos n]
  exact World.ownsRow_lit w _ n (Nat.le_refl _) h63 (size_madeCells _ _)
theorem ownsRow_below {lo k n : Nat} {e : TypeId} {v : Value} {cs : List Value} {w w' : World} (h : w.ownsRow lo e k v n cs) {B : Nat} (hb : Below B w w') (hB : w.heap.size ≤ B) : w'.ownsRow lo e k v n cs := by
  have hlt := h.lt
  obtain ⟨hl, hs⟩ := h
  refine ⟨hl, ?_⟩
  rcases hs with hs | ⟨g, cap, cur, rfl, hg, hh, r⟩
  · exact .inl hs
  · exact .inr ⟨g, cap, cur, rfl, hg, (hb.block g (by have := hlt g rfl; omega)).trans hh, r⟩

theorem ownsRow_below' {lo k n m cap g : Nat} {e : TypeId} {cs : List Value} {w w' : World} (h : w.ownsRow lo e k (.slice (some ⟨g, 0, none⟩) m cap) n cs) {B : Nat} (hb : Below B w w') (hB : g < B) : w'.ownsRow lo e k (.slice (some ⟨g, 0, none⟩) m cap) n cs := by
  obtain ⟨hl, hs⟩ := h
  refine ⟨hl, ?_⟩
  rcases hs with ⟨h1, _⟩ | ⟨g', cap', cur, hv, hg, hh, r⟩
  · cases h1
  · have he : g' = g := by injection hv with h1; injection h1 with h1; injection h1 with h1; exact h1.symm
    subst he
    exact .inr ⟨g', cap', cur, hv, hg, (hb.block g' hB).trans hh, r⟩

theorem wpList_makeE {α : Type} (E : α → List Value) (d : α) {ops : Array Oper} {rest : List Oper} {o : Oper} {a : Act} {Q : Exit → Act → World → Prop} {t e : TypeId} {z : Value} {k bytes : Nat} (el : ElemOk P t e z k bytes) (hz : z.cells.toList = E d) (hE : (E d).length = k)
    (hgd : o.guard = none) (l c : Operand) (hop : o.op = Op.makeSlice t l c) (base n : Nat) (N : Int) (hl : a.eval l = .int .i64 N) (hc : a.eval c = .int .i64 N) (hN : N = (n : Int)) (hbytes : bytes * n ≤ 281474976710656) (h63 : n ≤ maxLen) (hb : base ≤ w.heap.size)
    (hK : ∀ w', w'.ownsRow base e k (.slice (some ⟨w.heap.size, 0, none⟩) n n) n ((List.replicate n d).flatMap E) → Below w.heap.size w w' → wpList P ops Q rest (a.put o.dst (.slice (some ⟨w.heap.size, 0, none⟩) n n)) w') :
    wpList P ops Q (o :: rest) a w := by
  subst hN
  refine wpList_plain hgd fun K hK' => ?_
  obtain ⟨w', hrun, r1, r2, _⟩ := run_makeE E d el hz hE n hbytes h63 w
  unfold Oper.wp
  simp [execOp, hop, hl, hc, hrun, Result.andThen]
  refine hK' _ _ (hK w' ?_ r2)
  obtain ⟨hl, hs⟩ := r1
  refine ⟨hl, ?_⟩
  rcases hs with hs | ⟨g, cap, cur, hv, hg, hh, r⟩
  · exact .inl hs
  · exact .inr ⟨g, cap, cur, hv, by omega, hh, r⟩
end
end Go.Proofs.Ythnapjodmndlaaa

/- What a drawn region reads is kept behind calls, new blocks and appends to rows of other blocks. -/
namespace Go.Proofs.Ythnapjodmndlaaa
set_option linter.unusedVariables false
set_option linter.unusedSimpArgs false
open Go.ChangeShapes Go.WideShapes Go.ChangeAt Go.RowKit
section
variable {w w' : World}
theorem kcell (hb : Below w.heap.size w w') {p : Addr} {v : Value} (h : w.cell? p = some v) : w'.cell? p = some v := (hb.cell (World.block_lt_of_cell? w _ h)).trans h
theorem kfb (hb : Below w.heap.size w w') {p : Addr} {v : Value} (hc : w.cell? p = some v) (hf : w.frozen? p = false) : w'.frozen? p = false := (hb.frozen (World.block_lt_of_cell? w _ hc)).trans hf
theorem kfg {row : Option Nat} (hg : w.grownBy w' row) {p : Addr} {v : Value} (hn : some p.block ≠ row) (hc : w.cell? p = some v) (hf : w.frozen? p = false) : w'.frozen? p = false := (World.frozen?_of_block (hg.block p.block (World.block_lt_of_cell? w _ hc) hn)).trans hf
theorem kB2 {p0 p1 : Addr} {v0 v1 : Value} (hb : Below w.heap.size w w') (h : w.cell? p0 = some v0 ∧ w.cell? p1 = some v1) : w'.cell? p0 = some v0 ∧ w'.cell? p1 = some v1 := by
  obtain ⟨c0, c1⟩ := h
  exact ⟨kcell hb c0, kcell hb c1⟩
theorem kA2 {p0 p1 : Addr} {v0 v1 : Value} (o : Obj) (h : w.cell? p0 = some v0 ∧ w.cell? p1 = some v1) : (w.alloc o).cell? p0 = some v0 ∧ (w.alloc o).cell? p1 = some v1 := kB2 ((Below.refl _ _).alloc (Nat.le_refl _) _) h
theorem kS2 {p0 p1 q : Addr} {v0 v1 x : Value} (n0 : q.block ≠ p0.block) (n1 : q.block ≠ p1.block) (h : w.cell? p0 = some v0 ∧ w.cell? p1 = some v1) : (w.setCell q x).cell? p0 = some v0 ∧ (w.setCell q x).cell? p1 = some v1 := by
  obtain ⟨c0, c1⟩ := h
  exact ⟨(World.cell?_setCell_far _ _ _ _ n0).trans c0, (World.cell?_setCell_far _ _ _ _ n1).trans c1⟩
theorem kG2 {p0 p1 : Addr} {v0 v1 : Value} {row : Option Nat} (hg : w.grownBy w' row) (n0 : some p0.block ≠ row) (n1 : some p1.block ≠ row) (h : w.cell? p0 = some v0 ∧ w.cell? p1 = some v1) : w'.cell? p0 = some v0 ∧ w'.cell? p1 = some v1 := by
  obtain ⟨c0, c1⟩ := h
  exact ⟨hg.cell c0 n0, hg.cell c1 n1⟩
theorem kB3 {p0 p1 p2 : Addr} {v0 v1 v2 : Value} (hb : Below w.heap.size w w') (h : w.cell? p0 = some v0 ∧ w.cell? p1 = some v1 ∧ w.cell? p2 = some v2) : w'.cell? p0 = some v0 ∧ w'.cell? p1 = some v1 ∧ w'.cell? p2 = some v2 := by
  obtain ⟨c0, c1, c2⟩ := h
  exact ⟨kcell hb c0, kcell hb c1, kcell hb c2⟩
theorem kA3 {p0 p1 p2 : Addr} {v0 v1 v2 : Value} (o : Obj) (h : w.cell? p0 = some v0 ∧ w.cell? p1 = some v1 ∧ w.cell? p2 = some v2) : (w.alloc o).cell? p0 = some v0 ∧ (w.alloc o).cell? p1 = some v1 ∧ (w.alloc o).cell? p2 = some v2 := kB3 ((Below.refl _ _).alloc (Nat.le_refl _) _) h
theorem kS3 {p0 p1 p2 q : Addr} {v0 v1 v2 x : Value} (n0 : q.block ≠ p0.block) (n1 : q.block ≠ p1.block) (n2 : q.block ≠ p2.block) (h : w.cell? p0 = some v0 ∧ w.cell? p1 = some v1 ∧ w.cell? p2 = some v2) : (w.setCell q x).cell? p0 = some v0 ∧ (w.setCell q x).cell? p1 = some v1 ∧ (w.setCell q x).cell? p2 = some v2 := by
  obtain ⟨c0, c1, c2⟩ := h
  exact ⟨(World.cell?_setCell_far _ _ _ _ n0).trans c0, (World.cell?_setCell_far _ _ _ _ n1).trans c1, (World.cell?_setCell_far _ _ _ _ n2).trans c2⟩
theorem kG3 {p0 p1 p2 : Addr} {v0 v1 v2 : Value} {row : Option Nat} (hg : w.grownBy w' row) (n0 : some p0.block ≠ row) (n1 : some p1.block ≠ row) (n2 : some p2.block ≠ row) (h : w.cell? p0 = some v0 ∧ w.cell? p1 = some v1 ∧ w.cell? p2 = some v2) : w'.cell? p0 = some v0 ∧ w'.cell? p1 = some v1 ∧ w'.cell? p2 = some v2 := by
  obtain ⟨c0, c1, c2⟩ := h
  exact ⟨hg.cell c0 n0, hg.cell c1 n1, hg.cell c2 n2⟩
theorem kB4 {p0 p1 p2 p3 : Addr} {v0 v1 v2 v3 : Value} (hb : Below w.heap.size w w') (h : w.cell? p0 = some v0 ∧ w.cell? p1 = some v1 ∧ w.cell? p2 = some v2 ∧ w.cell? p3 = some v3) : w'.cell? p0 = some v0 ∧ w'.cell? p1 = some v1 ∧ w'.cell? p2 = some v2 ∧ w'.cell? p3 = some v3 := by
  obtain ⟨c0, c1, c2, c3⟩ := h
  exact ⟨kcell hb c0, kcell hb c1, kcell hb c2, kcell hb c3⟩
theorem kA4 {p0 p1 p2 p3 : Addr} {v0 v1 v2 v3 : Value} (o : Obj) (h : w.cell? p0 = some v0 ∧ w.cell? p1 = some v1 ∧ w.cell? p2 = some v2 ∧ w.cell? p3 = some v3) : (w.alloc o).cell? p0 = some v0 ∧ (w.alloc o).cell? p1 = some v1 ∧ (w.alloc o).cell? p2 = some v2 ∧ (w.alloc o).cell? p3 = some v3 := kB4 ((Below.refl _ _).alloc (Nat.le_refl _) _) h
theorem kS4 {p0 p1 p2 p3 q : Addr} {v0 v1 v2 v3 x : Value} (n0 : q.block ≠ p0.block) (n1 : q.block ≠ p1.block) (n2 : q.block ≠ p2.block) (n3 : q.block ≠ p3.block) (h : w.cell? p0 = some v0 ∧ w.cell? p1 = some v1 ∧ w.cell? p2 = some v2 ∧ w.cell? p3 = some v3) : (w.setCell q x).cell? p0 = some v0 ∧ (w.setCell q x).cell? p1 = some v1 ∧ (w.setCell q x).cell? p2 = some v2 ∧ (w.setCell q x).cell? p3 = some v3 := by
  obtain ⟨c0, c1, c2, c3⟩ := h
  exact ⟨(World.cell?_setCell_far _ _ _ _ n0).trans c0, (World.cell?_setCell_far _ _ _ _ n1).trans c1, (World.cell?_setCell_far _ _ _ _ n2).trans c2, (World.cell?_setCell_far _ _ _ _ n3).trans c3⟩
theorem kG4 {p0 p1 p2 p3 : Addr} {v0 v1 v2 v3 : Value} {row : Option Nat} (hg : w.grownBy w' row) (n0 : some p0.block ≠ row) (n1 : some p1.block ≠ row) (n2 : some p2.block ≠ row) (n3 : some p3.block ≠ row) (h : w.cell? p0 = some v0 ∧ w.cell? p1 = some v1 ∧ w.cell? p2 = some v2 ∧ w.cell? p3 = some v3) : w'.cell? p0 = some v0 ∧ w'.cell? p1 = some v1 ∧ w'.cell? p2 = some v2 ∧ w'.cell? p3 = some v3 := by
  obtain ⟨c0, c1, c2, c3⟩ := h
  exact ⟨hg.cell c0 n0, hg.cell c1 n1, hg.cell c2 n2, hg.cell c3 n3⟩
theorem kB5 {p0 p1 p2 p3 p4 : Addr} {v0 v1 v2 v3 v4 : Value} (hb : Below w.heap.size w w') (h : w.cell? p0 = some v0 ∧ w.cell? p1 = some v1 ∧ w.cell? p2 = some v2 ∧ w.cell? p3 = some v3 ∧ w.cell? p4 = some v4) : w'.cell? p0 = some v0 ∧ w'.cell? p1 = some v1 ∧ w'.cell? p2 = some v2 ∧ w'.cell? p3 = some v3 ∧ w'.cell? p4 = some v4 := by
  obtain ⟨c0, c1, c2, c3, c4⟩ := h
  exact ⟨kcell hb c0, kcell hb c1, kcell hb c2, kcell hb c3, kcell hb c4⟩
theorem kA5 {p0 p1 p2 p3 p4 : Addr} {v0 v1 v2 v3 v4 : Value} (o : Obj) (h : w.cell? p0 = some v0 ∧ w.cell? p1 = some v1 ∧ w.cell? p2 = some v2 ∧ w.cell? p3 = some v3 ∧ w.cell? p4 = some v4) : (w.alloc o).cell? p0 = some v0 ∧ (w.alloc o).cell? p1 = some v1 ∧ (w.alloc o).cell? p2 = some v2 ∧ (w.alloc o).cell? p3 = some v3 ∧ (w.alloc o).cell? p4 = some v4 := kB5 ((Below.refl _ _).alloc (Nat.le_refl _) _) h
theorem kS5 {p0 p1 p2 p3 p4 q : Addr} {v0 v1 v2 v3 v4 x : Value} (n0 : q.block ≠ p0.block) (n1 : q.block ≠ p1.block) (n2 : q.block ≠ p2.block) (n3 : q.block ≠ p3.block) (n4 : q.block ≠ p4.block) (h : w.cell? p0 = some v0 ∧ w.cell? p1 = some v1 ∧ w.cell? p2 = some v2 ∧ w.cell? p3 = some v3 ∧ w.cell? p4 = some v4) : (w.setCell q x).cell? p0 = some v0 ∧ (w.setCell q x).cell? p1 = some v1 ∧ (w.setCell q x).cell? p2 = some v2 ∧ (w.setCell q x).cell? p3 = some v3 ∧ (w.setCell q x).cell? p4 = some v4 := by
  obtain ⟨c0, c1, c2, c3, c4⟩ := h
  exact ⟨(World.cell?_setCell_far _ _ _ _ n0).trans c0, (World.cell?_setCell_far _ _ _ _ n1).trans c1, (World.cell?_setCell_far _ _ _ _ n2).trans c2, (World.cell?_setCell_far _ _ _ _ n3).trans c3, (World.cell?_setCell_far _ _ _ _ n4).trans c4⟩
theorem kG5 {p0 p1 p2 p3 p4 : Addr} {v0 v1 v2 v3 v4 : Value} {row : Option Nat} (hg : w.grownBy w' row) (n0 : some p0.block ≠ row) (n1 : some p1.block ≠ row) (n2 : some p2.block ≠ row) (n3 : some p3.block ≠ row) (n4 : some p4.block ≠ row) (h : w.cell? p0 = some v0 ∧ w.cell? p1 = some v1 ∧ w.cell? p2 = some v2 ∧ w.cell? p3 = some v3 ∧ w.cell? p4 = some v4) : w'.cell? p0 = some v0 ∧ w'.cell? p1 = some v1 ∧ w'.cell? p2 = some v2 ∧ w'.cell? p3 = some v3 ∧ w'.cell? p4 = some v4 := by
  obtain ⟨c0, c1, c2, c3, c4⟩ := h
  exact ⟨hg.cell c0 n0, hg.cell c1 n1, hg.cell c2 n2, hg.cell c3 n3, hg.cell c4 n4⟩
theorem kB6 {p0 p1 p2 p3 p4 p5 : Addr} {v0 v1 v2 v3 v4 v5 : Value} (hb : Below w.heap.size w w') (h : w.cell? p0 = some v0 ∧ w.cell? p1 = some v1 ∧ w.cell? p2 = some v2 ∧ w.cell? p3 = some v3 ∧ w.cell? p4 = some v4 ∧ w.cell? p5 = some v5) : w'.cell? p0 = some v0 ∧ w'.cell? p1 = some v1 ∧ w'.cell? p2 = some v2 ∧ w'.cell? p3 = some v3 ∧ w'.cell? p4 = some v4 ∧ w'.cell? p5 = some v5 := by
  obtain ⟨c0, c1, c2, c3, c4, c5⟩ := h
  exact ⟨kcell hb c0, kcell hb c1, kcell hb c2, kcell hb c3, kcell hb c4, kcell hb c5⟩
theorem kA6 {p0 p1 p2 p3 p4 p5 : Addr} {v0 v1 v2 v3 v4 v5 : Value} (o : Obj) (h : w.cell? p0 = some v0 ∧ w.cell? p1 = some v1 ∧ w.cell? p2 = some v2 ∧ w.cell? p3 = some v3 ∧ w.cell? p4 = some v4 ∧ w.cell? p5 = some v5) : (w.alloc o).cell? p0 = some v0 ∧ (w.alloc o).cell? p1 = some v1 ∧ (w.alloc o).cell? p2 = some v2 ∧ (w.alloc o).cell? p3 = some v3 ∧ (w.alloc o).cell? p4 = some v4 ∧ (w.alloc o).cell? p5 = some v5 := kB6 ((Below.refl _ _).alloc (Nat.le_refl _) _) h
theorem kS6 {p0 p1 p2 p3 p4 p5 q : Addr} {v0 v1 v2 v3 v4 v5 x : Value} (n0 : q.block ≠ p0.block) (n1 : q.block ≠ p1.block) (n2 : q.block ≠ p2.block) (n3 : q.block ≠ p3.block) (n4 : q.block ≠ p4.block) (n5 : q.block ≠ p5.block) (h : w.cell? p0 = some v0 ∧ w.cell? p1 = some v1 ∧ w.cell? p2 = some v2 ∧ w.cell? p3 = some v3 ∧ w.cell? p4 = some v4 ∧ w.cell? p5 = some v5) : (w.setCell q x).cell? p0 = some v0 ∧ (w.setCell q x).cell? p1 = some v1 ∧ (w.setCell q x).cell? p2 = some v2 ∧ (w.setCell q x).cell? p3 = some v3 ∧ (w.setCell q x).cell? p4 = some v4 ∧ (w.setCell q x).cell? p5 = some v5 := by
  obtain ⟨c0, c1, c2, c3, c4, c5⟩ := h
  exact ⟨(World.cell?_setCell_far _ _ _ _ n0).trans c0, (World.cell?_setCell_far _ _ _ _ n1).trans c1, (World.cell?_setCell_far _ _ _ _ n2).trans c2, (World.cell?_setCell_far _ _ _ _ n3).trans c3, (World.cell?_setCell_far _ _ _ _ n4).trans c4, (World.cell?_setCell_far _ _ _ _ n5).trans c5⟩
theorem kG6 {p0 p1 p2 p3 p4 p5 : Addr} {v0 v1 v2 v3 v4 v5 : Value} {row : Option Nat} (hg : w.grownBy w' row) (n0 : some p0.block ≠ row) (n1 : some p1.block ≠ row) (n2 : some p2.block ≠ row) (n3 : some p3.block ≠ row) (n4 : some p4.block ≠ row) (n5 : some p5.block ≠ row) (h : w.cell? p0 = some v0 ∧ w.cell? p1 = some v1 ∧ w.cell? p2 = some v2 ∧ w.cell? p3 = some v3 ∧ w.cell? p4 = some v4 ∧ w.cell? p5 = some v5) : w'.cell? p0 = some v0 ∧ w'.cell? p1 = some v1 ∧ w'.cell? p2 = some v2 ∧ w'.cell? p3 = some v3 ∧ w'.cell? p4 = some v4 ∧ w'.cell? p5 = some v5 := by
  obtain ⟨c0, c1, c2, c3, c4, c5⟩ := h
  exact ⟨hg.cell c0 n0, hg.cell c1 n1, hg.cell c2 n2, hg.cell c3 n3, hg.cell c4 n4, hg.cell c5 n5⟩
theorem kB7 {p0 p1 p2 p3 p4 p5 p6 : Addr} {v0 v1 v2 v3 v4 v5 v6 : Value} (hb : Below w.heap.size w w') (h : w.cell? p0 = some v0 ∧ w.cell? p1 = some v1 ∧ w.cell? p2 = some v2 ∧ w.cell? p3 = some v3 ∧ w.cell? p4 = some v4 ∧ w.cell? p5 = some v5 ∧ w.cell? p6 = some v6) : w'.cell? p0 = some v0 ∧ w'.cell? p1 = some v1 ∧ w'.cell? p2 = some v2 ∧ w'.cell? p3 = some v3 ∧ w'.cell? p4 = some v4 ∧ w'.cell? p5 = some v5 ∧ w'.cell? p6 = some v6 := by
  obtain ⟨c0, c1, c2, c3, c4, c5, c6⟩ := h
  exact ⟨kcell hb c0, kcell hb c1, kcell hb c2, kcell hb c3, kcell hb c4, kcell hb c5, kcell hb c6⟩
theorem kA7 {p0 p1 p2 p3 p4 p5 p6 : Addr} {v0 v1 v2 v3 v4 v5 v6 : Value} (o : Obj) (h : w.cell? p0 = some v0 ∧ w.cell? p1 = some v1 ∧ w.cell? p2 = some v2 ∧ w.cell? p3 = some v3 ∧ w.cell? p4 = some v4 ∧ w.cell? p5 = some v5 ∧ w.cell? p6 = some v6) : (w.alloc o).cell? p0 = some v0 ∧ (w.alloc o).cell? p1 = some v1 ∧ (w.alloc o).cell? p2 = some v2 ∧ (w.alloc o).cell? p3 = some v3 ∧ (w.alloc o).cell? p4 = some v4 ∧ (w.alloc o).cell? p5 = some v5 ∧ (w.alloc o).cell? p6 = some v6 := kB7 ((Below.refl _ _).alloc (Nat.le_refl _) _) h
theorem kS7 {p0 p1 p2 p3 p4 p5 p6 q : Addr} {v0 v1 v2 v3 v4 v5 v6 x : Value} (n0 : q.block ≠ p0.block) (n1 : q.block ≠ p1.block) (n2 : q.block ≠ p2.block) (n3 : q.block ≠ p3.block) (n4 : q.block ≠ p4.block) (n5 : q.block ≠ p5.block) (n6 : q.block ≠ p6.block) (h : w.cell? p0 = some v0 ∧ w.cell? p1 = some v1 ∧ w.cell? p2 = some v2 ∧ w.cell? p3 = some v3 ∧ w.cell? p4 = some v4 ∧ w.cell? p5 = some v5 ∧ w.cell? p6 = some v6) : (w.setCell q x).cell? p0 = some v0 ∧ (w.setCell q x).cell? p1 = some v1 ∧ (w.setCell q x).cell? p2 = some v2 ∧ (w.setCell q x).cell? p3 = some v3 ∧ (w.setCell q x).cell? p4 = some v4 ∧ (w.setCell q x).cell? p5 = some v5 ∧ (w.setCell q x).cell? p6 = some v6 := by
  obtain ⟨c0, c1, c2, c3, c4, c5, c6⟩ := h
  exact ⟨(World.cell?_setCell_far _ _ _ _ n0).trans c0, (World.cell?_setCell_far _ _ _ _ n1).trans c1, (World.cell?_setCell_far _ _ _ _ n2).trans c2, (World.cell?_setCell_far _ _ _ _ n3).trans c3, (World.cell?_setCell_far _ _ _ _ n4).trans c4, (World.cell?_setCell_far _ _ _ _ n5).trans c5, (World.cell?_setCell_far _ _ _ _ n6).trans c6⟩
theorem kG7 {p0 p1 p2 p3 p4 p5 p6 : Addr} {v0 v1 v2 v3 v4 v5 v6 : Value} {row : Option Nat} (hg : w.grownBy w' row) (n0 : some p0.block ≠ row) (n1 : some p1.block ≠ row) (n2 : some p2.block ≠ row) (n3 : some p3.block ≠ row) (n4 : some p4.block ≠ row) (n5 : some p5.block ≠ row) (n6 : some p6.block ≠ row) (h : w.cell? p0 = some v0 ∧ w.cell? p1 = some v1 ∧ w.cell? p2 = some v2 ∧ w.cell? p3 = some v3 ∧ w.cell? p4 = some v4 ∧ w.cell? p5 = some v5 ∧ w.cell? p6 = some v6) : w'.cell? p0 = some v0 ∧ w'.cell? p1 = some v1 ∧ w'.cell? p2 = some v2 ∧ w'.cell? p3 = some v3 ∧ w'.cell? p4 = some v4 ∧ w'.cell? p5 = some v5 ∧ w'.cell? p6 = some v6 := by
  obtain ⟨c0, c1, c2, c3, c4, c5, c6⟩ := h
  exact ⟨hg.cell c0 n0, hg.cell c1 n1, hg.cell c2 n2, hg.cell c3 n3, hg.cell c4 n4, hg.cell c5 n5, hg.cell c6 n6⟩
theorem kB8 {p0 p1 p2 p3 p4 p5 p6 p7 : Addr} {v0 v1 v2 v3 v4 v5 v6 v7 : Value} (hb : Below w.heap.size w w') (h : w.cell? p0 = some v0 ∧ w.cell? p1 = some v1 ∧ w.cell? p2 = some v2 ∧ w.cell? p3 = some v3 ∧ w.cell? p4 = some v4 ∧ w.cell? p5 = some v5 ∧ w.cell? p6 = some v6 ∧ w.cell? p7 = some v7) : w'.cell? p0 = some v0 ∧ w'.cell? p1 = some v1 ∧ w'.cell? p2 = some v2 ∧ w'.cell? p3 = some v3 ∧ w'.cell? p4 = some v4 ∧ w'.cell? p5 = some v5 ∧ w'.cell? p6 = some v6 ∧ w'.cell? p7 = some v7 := by
  obtain ⟨c0, c1, c2, c3, c4, c5, c6, c7⟩ := h
  exact ⟨kcell hb c0, kcell hb c1, kcell hb c2, kcell hb c3, kcell hb c4, kcell hb c5, kcell hb c6, kcell hb c7⟩
theorem kA8 {p0 p1 p2 p3 p4 p5 p6 p7 : Addr} {v0 v1 v2 v3 v4 v5 v6 v7 : Value} (o : Obj) (h : w.cell? p0 = some v0 ∧ w.cell? p1 = some v1 ∧ w.cell? p2 = some v2 ∧ w.cell? p3 = some v3 ∧ w.cell? p4 = some v4 ∧ w.cell? p5 = some v5 ∧ w.cell? p6 = some v6 ∧ w.cell? p7 = some v7) : (w.alloc o).cell? p0 = some v0 ∧ (w.alloc o).cell? p1 = some v1 ∧ (w.alloc o).cell? p2 = some v2 ∧ (w.alloc o).cell? p3 = some v3 ∧ (w.alloc o).cell? p4 = some v4 ∧ (w.alloc o).cell? p5 = some v5 ∧ (w.alloc o).cell? p6 = some v6 ∧ (w.alloc o).cell? p7 = some v7 := kB8 ((Below.refl _ _).alloc (Nat.le_refl _) _) h
theorem kS8 {p0 p1 p2 p3 p4 p5 p6 p7 q : Addr} {v0 v1 v2 v3 v4 v5 v6 v7 x : Value} (n0 : q.block ≠ p0.block) (n1 : q.block ≠ p1.block) (n2 : q.block ≠ p2.block) (n3 : q.block ≠ p3.block) (n4 : q.block ≠ p4.block) (n5 : q.block ≠ p5.block) (n6 : q.block ≠ p6.block) (n7 : q.block ≠ p7.block) (h : w.cell? p0 = some v0 ∧ w.cell? p1 = some v1 ∧ w.cell? p2 = some v2 ∧ w.cell? p3 = some v3 ∧ w.cell? p4 = some v4 ∧ w.cell? p5 = some v5 ∧ w.cell? p6 = some v6 ∧ w.cell? p7 = some v7) : (w.setCell q x).cell? p0 = some v0 ∧ (w.setCell q x).cell? p1 = some v1 ∧ (w.setCell q x).cell? p2 = some v2 ∧ (w.setCell q x).cell? p3 = some v3 ∧ (w.setCell q x).cell? p4 = some v4 ∧ (w.setCell q x).cell? p5 = some v5 ∧ (w.setCell q x).cell? p6 = some v6 ∧ (w.setCell q x).cell? p7 = some v7 := by
  obtain ⟨c0, c1, c2, c3, c4, c5, c6, c7⟩ := h
  exact ⟨(World.cell?_setCell_far _ _ _ _ n0).trans c0, (World.cell?_setCell_far _ _ _ _ n1).trans c1, (World.cell?_setCell_far _ _ _ _ n2).trans c2, (World.cell?_setCell_far _ _ _ _ n3).trans c3, (World.cell?_setCell_far _ _ _ _ n4).trans c4, (World.cell?_setCell_far _ _ _ _ n5).trans c5, (World.cell?_setCell_far _ _ _ _ n6).trans c6, (World.cell?_setCell_far _ _ _ _ n7).trans c7⟩
theorem kG8 {p0 p1 p2 p3 p4 p5 p6 p7 : Addr} {v0 v1 v2 v3 v4 v5 v6 v7 : Value} {row : Option Nat} (hg : w.grownBy w' row) (n0 : some p0.block ≠ row) (n1 : some p1.block ≠ row) (n2 : some p2.block ≠ row) (n3 : some p3.block ≠ row) (n4 : some p4.block ≠ row) (n5 : some p5.block ≠ row) (n6 : some p6.block ≠ row) (n7 : some p7.block ≠ row) (h : w.cell? p0 = some v0 ∧ w.cell? p1 = some v1 ∧ w.cell? p2 = some v2 ∧ w.cell? p3 = some v3 ∧ w.cell? p4 = some v4 ∧ w.cell? p5 = some v5 ∧ w.cell? p6 = some v6 ∧ w.cell? p7 = some v7) : w'.cell? p0 = some v0 ∧ w'.cell? p1 = some v1 ∧ w'.cell? p2 = some v2 ∧ w'.cell? p3 = some v3 ∧ w'.cell? p4 = some v4 ∧ w'.cell? p5 = some v5 ∧ w'.cell? p6 = some v6 ∧ w'.cell? p7 = some v7 := by
  obtain ⟨c0, c1, c2, c3, c4, c5, c6, c7⟩ := h
  exact ⟨hg.cell c0 n0, hg.cell c1 n1, hg.cell c2 n2, hg.cell c3 n3, hg.cell c4 n4, hg.cell c5 n5, hg.cell c6 n6, hg.cell c7 n7⟩
theorem kB9 {p0 p1 p2 p3 p4 p5 p6 p7 p8 : Addr} {v0 v1 v2 v3 v4 v5 v6 v7 v8 : Value} (hb : Below w.heap.size w w') (h : w.cell? p0 = some v0 ∧ w.cell? p1 = some v1 ∧ w.cell? p2 = some v2 ∧ w.cell? p3 = some v3 ∧ w.cell? p4 = some v4 ∧ w.cell? p5 = some v5 ∧ w.cell? p6 = some v6 ∧ w.cell? p7 = some v7 ∧ w.cell? p8 = some v8) : w'.cell? p0 = some v0 ∧ w'.cell? p1 = some v1 ∧ w'.cell? p2 = some v2 ∧ w'.cell? p3 = some v3 ∧ w'.cell? p4 = some v4 ∧ w'.cell? p5 = some v5 ∧ w'.cell? p6 = some v6 ∧ w'.cell? p7 = some v7 ∧ w'.cell? p8 = some v8 := by
  obtain ⟨c0, c1, c2, c3, c4, c5, c6, c7, c8⟩ := h
  exact ⟨kcell hb c0, kcell hb c1, kcell hb c2, kcell hb c3, kcell hb c4, kcell hb c5, kcell hb c6, kcell hb c7, kcell hb c8⟩
theorem kA9 {p0 p1 p2 p3 p4 p5 p6 p7 p8 : Addr} {v0 v1 v2 v3 v4 v5 v6 v7 v8 : Value} (o : Obj) (h : w.cell? p0 = some v0 ∧ w.cell? p1 = some v1 ∧ w.cell? p2 = some v2 ∧ w.cell? p3 = some v3 ∧ w.cell? p4 = some v4 ∧ w.cell? p5 = some v5 ∧ w.cell? p6 = some v6 ∧ w.cell? p7 = some v7 ∧ w.cell? p8 = some v8) : (w.alloc o).cell? p0 = some v0 ∧ (w.alloc o).cell? p1 = some v1 ∧ (w.alloc o).cell? p2 = some v2 ∧ (w.alloc o).cell? p3 = some v3 ∧ (w.alloc o).cell? p4 = some v4 ∧ (w.alloc o).cell? p5 = some v5 ∧ (w.alloc o).cell? p6 = some v6 ∧ (w.alloc o).cell? p7 = some v7 ∧ (w.alloc o).cell? p8 = some v8 := kB9 ((Below.refl _ _).alloc (Nat.le_refl _) _) h
theorem kS9 {p0 p1 p2 p3 p4 p5 p6 p7 p8 q : Addr} {v0 v1 v2 v3 v4 v5 v6 v7 v8 x : Value} (n0 : q.block ≠ p0.block) (n1 : q.block ≠ p1.block) (n2 : q.block ≠ p2.block) (n3 : q.block ≠ p3.block) (n4 : q.block ≠ p4.block) (n5 : q.block ≠ p5.block) (n6 : q.block ≠ p6.block) (n7 : q.block ≠ p7.block) (n8 : q.block ≠ p8.block) (h : w.cell? p0 = some v0 ∧ w.cell? p1 = some v1 ∧ w.cell? p2 = some v2 ∧ w.cell? p3 = some v3 ∧ w.cell? p4 = some v4 ∧ w.cell? p5 = some v5 ∧ w.cell? p6 = some v6 ∧ w.cell? p7 = some v7 ∧ w.cell? p8 = some v8) : (w.setCell q x).cell? p0 = some v0 ∧ (w.setCell q x).cell? p1 = some v1 ∧ (w.setCell q x).cell? p2 = some v2 ∧ (w.setCell q x).cell? p3 = some v3 ∧ (w.setCell q x).cell? p4 = some v4 ∧ (w.setCell q x).cell? p5 = some v5 ∧ (w.setCell q x).cell? p6 = some v6 ∧ (w.setCell q x).cell? p7 = some v7 ∧ (w.setCell q x).cell? p8 = some v8 := by
  obtain ⟨c0, c1, c2, c3, c4, c5, c6, c7, c8⟩ := h
  exact ⟨(World.cell?_setCell_far _ _ _ _ n0).trans c0, (World.cell?_setCell_far _ _ _ _ n1).trans c1, (World.cell?_setCell_far _ _ _ _ n2).trans c2, (World.cell?_setCell_far _ _ _ _ n3).trans c3, (World.cell?_setCell_far _ _ _ _ n4).trans c4, (World.cell?_setCell_far _ _ _ _ n5).trans c5, (World.cell?_setCell_far _ _ _ _ n6).trans c6, (World.cell?_setCell_far _ _ _ _ n7).trans c7, (World.cell?_setCell_far _ _ _ _ n8).trans c8⟩
theorem kG9 {p0 p1 p2 p3 p4 p5 p6 p7 p8 : Addr} {v0 v1 v2 v3 v4 v5 v6 v7 v8 : Value} {row : Option Nat} (hg : w.grownBy w' row) (n0 : some p0.block ≠ row) (n1 : some p1.block ≠ row) (n2 : some p2.block ≠ row) (n3 : some p3.block ≠ row) (n4 : some p4.block ≠ row) (n5 : some p5.block ≠ row) (n6 : some p6.block ≠ row) (n7 : some p7.block ≠ row) (n8 : some p8.block ≠ row) (h : w.cell? p0 = some v0 ∧ w.cell? p1 = some v1 ∧ w.cell? p2 = some v2 ∧ w.cell? p3 = some v3 ∧ w.cell? p4 = some v4 ∧ w.cell? p5 = some v5 ∧ w.cell? p6 = some v6 ∧ w.cell? p7 = some v7 ∧ w.cell? p8 = some v8) : w'.cell? p0 = some v0 ∧ w'.cell? p1 = some v1 ∧ w'.cell? p2 = some v2 ∧ w'.cell? p3 = some v3 ∧ w'.cell? p4 = some v4 ∧ w'.cell? p5 = some v5 ∧ w'.cell? p6 = some v6 ∧ w'.cell? p7 = some v7 ∧ w'.cell? p8 = some v8 := by
  obtain ⟨c0, c1, c2, c3, c4, c5, c6, c7, c8⟩ := h
  exact ⟨hg.cell c0 n0, hg.cell c1 n1, hg.cell c2 n2, hg.cell c3 n3, hg.cell c4 n4, hg.cell c5 n5, hg.cell c6 n6, hg.cell c7 n7, hg.cell c8 n8⟩
theorem kB10 {p0 p1 p2 p3 p4 p5 p6 p7 p8 p9 : Addr} {v0 v1 v2 v3 v4 v5 v6 v7 v8 v9 : Value} (hb : Below w.heap.size w w') (h : w.cell? p0 = some v0 ∧ w.cell? p1 = some v1 ∧ w.cell? p2 = some v2 ∧ w.cell? p3 = some v3 ∧ w.cell? p4 = some v4 ∧ w.cell? p5 = some v5 ∧ w.cell? p6 = some v6 ∧ w.cell? p7 = some v7 ∧ w.cell? p8 = some v8 ∧ w.cell? p9 = some v9) : w'.cell? p0 = some v0 ∧ w'.cell? p1 = some v1 ∧ w'.cell? p2 = some v2 ∧ w'.cell? p3 = some v3 ∧ w'.cell? p4 = some v4 ∧ w'.cell? p5 = some v5 ∧ w'.cell? p6 = some v6 ∧ w'.cell? p7 = some v7 ∧ w'.cell? p8 = some v8 ∧ w'.cell? p9 = some v9 := by
  obtain ⟨c0, c1, c2, c3, c4, c5, c6, c7, c8, c9⟩ := h
  exact ⟨kcell hb c0, kcell hb c1, kcell hb c2, kcell hb c3, kcell hb c4, kcell hb c5, kcell hb c6, kcell hb c7, kcell hb c8, kcell hb c9⟩
theorem kA10 {p0 p1 p2 p3 p4 p5 p6 p7 p8 p9 : Addr} {v0 v1 v2 v3 v4 v5 v6 v7 v8 v9 : Value} (o : Obj) (h : w.cell? p0 = some v0 ∧ w.cell? p1 = some v1 ∧ w.cell? p2 = some v2 ∧ w.cell? p3 = some v3 ∧ w.cell? p4 = some v4 ∧ w.cell? p5 = some v5 ∧ w.cell? p6 = some v6 ∧ w.cell? p7 = some v7 ∧ w.cell? p8 = some v8 ∧ w.cell? p9 = some v9) : (w.alloc o).cell? p0 = some v0 ∧ (w.alloc o).cell? p1 = some v1 ∧ (w.alloc o).cell? p2 = some v2 ∧ (w.alloc o).cell? p3 = some v3 ∧ (w.alloc o).cell? p4 = some v4 ∧ (w.alloc o).cell? p5 = some v5 ∧ (w.alloc o).cell? p6 = some v6 ∧ (w.alloc o).cell? p7 = some v7 ∧ (w.alloc o).cell? p8 = some v8 ∧ (w.alloc o).cell? p9 = some v9 := kB10 ((Below.refl _ _).alloc (Nat.le_refl _) _) h
theorem kS10 {p0 p1 p2 p3 p4 p5 p6 p7 p8 p9 q : Addr} {v0 v1 v2 v3 v4 v5 v6 v7 v8 v9 x : Value} (n0 : q.block ≠ p0.block) (n1 : q.block ≠ p1.block) (n2 : q.block ≠ p2.block) (n3 : q.block ≠ p3.block) (n4 : q.block ≠ p4.block) (n5 : q.block ≠ p5.block) (n6 : q.block ≠ p6.block) (n7 : q.block ≠ p7.block) (n8 : q.block ≠ p8.block) (n9 : q.block ≠ p9.block) (h : w.cell? p0 = some v0 ∧ w.cell? p1 = some v1 ∧ w.cell? p2 = some v2 ∧ w.cell? p3 = some v3 ∧ w.cell? p4 = some v4 ∧ w.cell? p5 = some v5 ∧ w.cell? p6 = some v6 ∧ w.cell? p7 = some v7 ∧ w.cell? p8 = some v8 ∧ w.cell? p9 = some v9) : (w.setCell q x).cell? p0 = some v0 ∧ (w.setCell q x).cell? p1 = some v1 ∧ (w.setCell q x).cell? p2 = some v2 ∧ (w.setCell q x).cell? p3 = some v3 ∧ (w.setCell q x).cell? p4 = some v4 ∧ (w.setCell q x).cell? p5 = some v5 ∧ (w.setCell q x).cell? p6 = some v6 ∧ (w.setCell q x).cell? p7 = some v7 ∧ (w.setCell q x).cell? p8 = some v8 ∧ (w.setCell q x).cell? p9 = some v9 := by
  obtain ⟨c0, c1, c2, c3, c4, c5, c6, c7, c8, c9⟩ := h
  exact ⟨(World.cell?_setCell_far _ _ _ _ n0).trans c0, (World.cell?_setCell_far _ _ _ _ n1).trans c1, (World.cell?_setCell_far _ _ _ _ n2).trans c2, (World.cell?_setCell_far _ _ _ _ n3).trans c3, (World.cell?_setCell_far _ _ _ _ n4).trans c4, (World.cell?_setCell_far _ _ _ _ n5).trans c5, (World.cell?_setCell_far _ _ _ _ n6).trans c6, (World.cell?_setCell_far _ _ _ _ n7).trans c7, (World.cell?_setCell_far _ _ _ _ n8).trans c8, (World.cell?_setCell_far _ _ _ _ n9).trans c9⟩
theorem kG10 {p0 p1 p2 p3 p4 p5 p6 p7 p8 p9 : Addr} {v0 v1 v2 v3 v4 v5 v6 v7 v8 v9 : Value} {row : Option Nat} (hg : w.grownBy w' row) (n0 : some p0.block ≠ row) (n1 : some p1.block ≠ row) (n2 : some p2.block ≠ row) (n3 : some p3.block ≠ row) (n4 : some p4.block ≠ row) (n5 : some p5.block ≠ row) (n6 : some p6.block ≠ row) (n7 : some p7.block ≠ row) (n8 : some p8.block ≠ row) (n9 : some p9.block ≠ row) (h : w.cell? p0 = some v0 ∧ w.cell? p1 = some v1 ∧ w.cell? p2 = some v2 ∧ w.cell? p3 = some v3 ∧ w.cell? p4 = some v4 ∧ w.cell? p5 = some v5 ∧ w.cell? p6 = some v6 ∧ w.cell? p7 = some v7 ∧ w.cell? p8 = some v8 ∧ w.cell? p9 = some v9) : w'.cell? p0 = some v0 ∧ w'.cell? p1 = some v1 ∧ w'.cell? p2 = some v2 ∧ w'.cell? p3 = some v3 ∧ w'.cell? p4 = some v4 ∧ w'.cell? p5 = some v5 ∧ w'.cell? p6 = some v6 ∧ w'.cell? p7 = some v7 ∧ w'.cell? p8 = some v8 ∧ w'.cell? p9 = some v9 := by
  obtain ⟨c0, c1, c2, c3, c4, c5, c6, c7, c8, c9⟩ := h
  exact ⟨hg.cell c0 n0, hg.cell c1 n1, hg.cell c2 n2, hg.cell c3 n3, hg.cell c4 n4, hg.cell c5 n5, hg.cell c6 n6, hg.cell c7 n7, hg.cell c8 n8, hg.cell c9 n9⟩
theorem kB11 {p0 p1 p2 p3 p4 p5 p6 p7 p8 p9 p10 : Addr} {v0 v1 v2 v3 v4 v5 v6 v7 v8 v9 v10 : Value} (hb : Below w.heap.size w w') (h : w.cell? p0 = some v0 ∧ w.cell? p1 = some v1 ∧ w.cell? p2 = some v2 ∧ w.cell? p3 = some v3 ∧ w.cell? p4 = some v4 ∧ w.cell? p5 = some v5 ∧ w.cell? p6 = some v6 ∧ w.cell? p7 = some v7 ∧ w.cell? p8 = some v8 ∧ w.cell? p9 = some v9 ∧ w.cell? p10 = some v10) : w'.cell? p0 = some v0 ∧ w'.cell? p1 = some v1 ∧ w'.cell? p2 = some v2 ∧ w'.cell? p3 = some v3 ∧ w'.cell? p4 = some v4 ∧ w'.cell? p5 = some v5 ∧ w'.cell? p6 = some v6 ∧ w'.cell? p7 = some v7 ∧ w'.cell? p8 = some v8 ∧ w'.cell? p9 = some v9 ∧ w'.cell? p10 = some v10 := by
  obtain ⟨c0, c1, c2, c3, c4, c5, c6, c7, c8, c9, c10⟩ := h
  exact ⟨kcell hb c0, kcell hb c1, kcell hb c2, kcell hb c3, kcell hb c4, kcell hb c5, kcell hb c6, kcell hb c7, kcell hb c8, kcell hb c9, kcell hb c10⟩
theorem kA11 {p0 p1 p2 p3 p4 p5 p6 p7 p8 p9 p10 : Addr} {v0 v1 v2 v3 v4 v5 v6 v7 v8 v9 v10 : Value} (o : Obj) (h : w.cell? p0 = some v0 ∧ w.cell? p1 = some v1 ∧ w.cell? p2 = some v2 ∧ w.cell? p3 = some v3 ∧ w.cell? p4 = some v4 ∧ w.cell? p5 = some v5 ∧ w.cell? p6 = some v6 ∧ w.cell? p7 = some v7 ∧ w.cell? p8 = some v8 ∧ w.cell? p9 = some v9 ∧ w.cell? p10 = some v10) : (w.alloc o).cell? p0 = some v0 ∧ (w.alloc o).cell? p1 = some v1 ∧ (w.alloc o).cell? p2 = some v2 ∧ (w.alloc o).cell? p3 = some v3 ∧ (w.alloc o).cell? p4 = some v4 ∧ (w.alloc o).cell? p5 = some v5 ∧ (w.alloc o).cell? p6 = some v6 ∧ (w.alloc o).cell? p7 = some v7 ∧ (w.alloc o).cell? p8 = some v8 ∧ (w.alloc o).cell? p9 = some v9 ∧ (w.alloc o).cell? p10 = some v10 := kB11 ((Below.refl _ _).alloc (Nat.le_refl _) _) h
theorem kS11 {p0 p1 p2 p3 p4 p5 p6 p7 p8 p9 p10 q : Addr} {v0 v1 v2 v3 v4 v5 v6 v7 v8 v9 v10 x : Value} (n0 : q.block ≠ p0.block) (n1 : q.block ≠ p1.block) (n2 : q.block ≠ p2.block) (n3 : q.block ≠ p3.block) (n4 : q.block ≠ p4.block) (n5 : q.block ≠ p5.block) (n6 : q.block ≠ p6.block) (n7 : q.block ≠ p7.block) (n8 : q.block ≠ p8.block) (n9 : q.block ≠ p9.block) (n10 : q.block ≠ p10.block) (h : w.cell? p0 = some v0 ∧ w.cell? p1 = some v1 ∧ w.cell? p2 = some v2 ∧ w.cell? p3 = some v3 ∧ w.cell? p4 = some v4 ∧ w.cell? p5 = some v5 ∧ w.cell? p6 = some v6 ∧ w.cell? p7 = some v7 ∧ w.cell? p8 = some v8 ∧ w.cell? p9 = some v9 ∧ w.cell? p10 = some v10) : (w.setCell q x).cell? p0 = some v0 ∧ (w.setCell q x).cell? p1 = some v1 ∧ (w.setCell q x).cell? p2 = some v2 ∧ (w.setCell q x).cell? p3 = some v3 ∧ (w.setCell q x).cell? p4 = some v4 ∧ (w.setCell q x).cell? p5 = some v5 ∧ (w.setCell q x).cell? p6 = some v6 ∧ (w.setCell q x).cell? p7 = some v7 ∧ (w.setCell q x).cell? p8 = some v8 ∧ (w.setCell q x).cell? p9 = some v9 ∧ (w.setCell q x).cell? p10 = some v10 := by
  obtain ⟨c0, c1, c2, c3, c4, c5, c6, c7, c8, c9, c10⟩ := h
  exact ⟨(World.cell?_setCell_far _ _ _ _ n0).trans c0, (World.cell?_setCell_far _ _ _ _ n1).trans c1, (World.cell?_setCell_far _ _ _ _ n2).trans c2, (World.cell?_setCell_far _ _ _ _ n3).trans c3, (World.cell?_setCell_far _ _ _ _ n4).trans c4, (World.cell?_setCell_far _ _ _ _ n5).trans c5, (World.cell?_setCell_far _ _ _ _ n6).trans c6, (World.cell?_setCell_far _ _ _ _ n7).trans c7, (World.cell?_setCell_far _ _ _ _ n8).trans c8, (World.cell?_setCell_far _ _ _ _ n9).trans c9, (World.cell?_setCell_far _ _ _ _ n10).trans c10⟩
theorem kG11 {p0 p1 p2 p3 p4 p5 p6 p7 p8 p9 p10 : Addr} {v0 v1 v2 v3 v4 v5 v6 v7 v8 v9 v10 : Value} {row : Option Nat} (hg : w.grownBy w' row) (n0 : some p0.block ≠ row) (n1 : some p1.block ≠ row) (n2 : some p2.block ≠ row) (n3 : some p3.block ≠ row) (n4 : some p4.block ≠ row) (n5 : some p5.block ≠ row) (n6 : some p6.block ≠ row) (n7 : some p7.block ≠ row) (n8 : some p8.block ≠ row) (n9 : some p9.block ≠ row) (n10 : some p10.block ≠ row) (h : w.cell? p0 = some v0 ∧ w.cell? p1 = some v1 ∧ w.cell? p2 = some v2 ∧ w.cell? p3 = some v3 ∧ w.cell? p4 = some v4 ∧ w.cell? p5 = some v5 ∧ w.cell? p6 = some v6 ∧ w.cell? p7 = some v7 ∧ w.cell? p8 = some v8 ∧ w.cell? p9 = some v9 ∧ w.cell? p10 = some v10) : w'.cell? p0 = some v0 ∧ w'.cell? p1 = some v1 ∧ w'.cell? p2 = some v2 ∧ w'.cell? p3 = some v3 ∧ w'.cell? p4 = some v4 ∧ w'.cell? p5 = some v5 ∧ w'.cell? p6 = some v6 ∧ w'.cell? p7 = some v7 ∧ w'.cell? p8 = some v8 ∧ w'.cell? p9 = some v9 ∧ w'.cell? p10 = some v10 := by
  obtain ⟨c0, c1, c2, c3, c4, c5, c6, c7, c8, c9, c10⟩ := h
  exact ⟨hg.cell c0 n0, hg.cell c1 n1, hg.cell c2 n2, hg.cell c3 n3, hg.cell c4 n4, hg.cell c5 n5, hg.cell c6 n6, hg.cell c7 n7, hg.cell c8 n8, hg.cell c9 n9, hg.cell c10 n10⟩
theorem kB12 {p0 p1 p2 p3 p4 p5 p6 p7 p8 p9 p10 p11 : Addr} {v0 v1 v2 v3 v4 v5 v6 v7 v8 v9 v10 v11 : Value} (hb : Below w.heap.size w w') (h : w.cell? p0 = some v0 ∧ w.cell? p1 = some v1 ∧ w.cell? p2 = some v2 ∧ w.cell? p3 = some v3 ∧ w.cell? p4 = some v4 ∧ w.cell? p5 = some v5 ∧ w.cell? p6 = some v6 ∧ w.cell? p7 = some v7 ∧ w.cell? p8 = some v8 ∧ w.cell? p9 = some v9 ∧ w.cell? p10 = some v10 ∧ w.cell? p11 = some v11) : w'.cell? p0 = some v0 ∧ w'.cell? p1 = some v1 ∧ w'.cell? p2 = some v2 ∧ w'.cell? p3 = some v3 ∧ w'.cell? p4 = some v4 ∧ w'.cell? p5 = some v5 ∧ w'.cell? p6 = some v6 ∧ w'.cell? p7 = some v7 ∧ w'.cell? p8 = some v8 ∧ w'.cell? p9 = some v9 ∧ w'.cell? p10 = some v10 ∧ w'.cell? p11 = some v11 := by
  obtain ⟨c0, c1, c2, c3, c4, c5, c6, c7, c8, c9, c10, c11⟩ := h
  exact ⟨kcell hb c0, kcell hb c1, kcell hb c2, kcell hb c3, kcell hb c4, kcell hb c5, kcell hb c6, kcell hb c7, kcell hb c8, kcell hb c9, kcell hb c10, kcell hb c11⟩
theorem kA12 {p0 p1 p2 p3 p4 p5 p6 p7 p8 p9 p10 p11 : Addr} {v0 v1 v2 v3 v4 v5 v6 v7 v8 v9 v10 v11 : Value} (o : Obj) (h : w.cell? p0 = some v0 ∧ w.cell? p1 = some v1 ∧ w.cell? p2 = some v2 ∧ w.cell? p3 = some v3 ∧ w.cell? p4 = some v4 ∧ w.cell? p5 = some v5 ∧ w.cell? p6 = some v6 ∧ w.cell? p7 = some v7 ∧ w.cell? p8 = some v8 ∧ w.cell? p9 = some v9 ∧ w.cell? p10 = some v10 ∧ w.cell? p11 = some v11) : (w.alloc o).cell? p0 = some v0 ∧ (w.alloc o).cell? p1 = some v1 ∧ (w.alloc o).cell? p2 = some v2 ∧ (w.alloc o).cell? p3 = some v3 ∧ (w.alloc o).cell? p4 = some v4 ∧ (w.alloc o).cell? p5 = some v5 ∧ (w.alloc o).cell? p6 = some v6 ∧ (w.alloc o).cell? p7 = some v7 ∧ (w.alloc o).cell? p8 = some v8 ∧ (w.alloc o).cell? p9 = some v9 ∧ (w.alloc o).cell? p10 = some v10 ∧ (w.alloc o).cell? p11 = some v11 := kB12 ((Below.refl _ _).alloc (Nat.le_refl _) _) h
theorem kS12 {p0 p1 p2 p3 p4 p5 p6 p7 p8 p9 p10 p11 q : Addr} {v0 v1 v2 v3 v4 v5 v6 v7 v8 v9 v10 v11 x : Value} (n0 : q.block ≠ p0.block) (n1 : q.block ≠ p1.block) (n2 : q.block ≠ p2.block) (n3 : q.block ≠ p3.block) (n4 : q.block ≠ p4.block) (n5 : q.block ≠ p5.block) (n6 : q.block ≠ p6.block) (n7 : q.block ≠ p7.block) (n8 : q.block ≠ p8.block) (n9 : q.block ≠ p9.block) (n10 : q.block ≠ p10.block) (n11 : q.block ≠ p11.block) (h : w.cell? p0 = some v0 ∧ w.cell? p1 = some v1 ∧ w.cell? p2 = some v2 ∧ w.cell? p3 = some v3 ∧ w.cell? p4 = some v4 ∧ w.cell? p5 = some v5 ∧ w.cell? p6 = some v6 ∧ w.cell? p7 = some v7 ∧ w.cell? p8 = some v8 ∧ w.cell? p9 = some v9 ∧ w.cell? p10 = some v10 ∧ w.cell? p11 = some v11) : (w.setCell q x).cell? p0 = some v0 ∧ (w.setCell q x).cell? p1 = some v1 ∧ (w.setCell q x).cell? p2 = some v2 ∧ (w.setCell q x).cell? p3 = some v3 ∧ (w.setCell q x).cell? p4 = some v4 ∧ (w.setCell q x).cell? p5 = some v5 ∧ (w.setCell q x).cell? p6 = some v6 ∧ (w.setCell q x).cell? p7 = some v7 ∧ (w.setCell q x).cell? p8 = some v8 ∧ (w.setCell q x).cell? p9 = some v9 ∧ (w.setCell q x).cell? p10 = some v10 ∧ (w.setCell q x).cell? p11 = some v11 := by
  obtain ⟨c0, c1, c2, c3, c4, c5, c6, c7, c8, c9, c10, c11⟩ := h
  exact ⟨(World.cell?_setCell_far _ _ _ _ n0).trans c0, (World.cell?_setCell_far _ _ _ _ n1).trans c1, (World.cell?_setCell_far _ _ _ _ n2).trans c2, (World.cell?_setCell_far _ _ _ _ n3).trans c3, (World.cell?_setCell_far _ _ _ _ n4).trans c4, (World.cell?_setCell_far _ _ _ _ n5).trans c5, (World.cell?_setCell_far _ _ _ _ n6).trans c6, (World.cell?_setCell_far _ _ _ _ n7).trans c7, (World.cell?_setCell_far _ _ _ _ n8).trans c8, (World.cell?_setCell_far _ _ _ _ n9).trans c9, (World.cell?_setCell_far _ _ _ _ n10).trans c10, (World.cell?_setCell_far _ _ _ _ n11).trans c11⟩
theorem kG12 {p0 p1 p2 p3 p4 p5 p6 p7 p8 p9 p10 p11 : Addr} {v0 v1 v2 v3 v4 v5 v6 v7 v8 v9 v10 v11 : Value} {row : Option Nat} (hg : w.grownBy w' row) (n0 : some p0.block ≠ row) (n1 : some p1.block ≠ row) (n2 : some p2.block ≠ row) (n3 : some p3.block ≠ row) (n4 : some p4.block ≠ row) (n5 : some p5.block ≠ row) (n6 : some p6.block ≠ row) (n7 : some p7.block ≠ row) (n8 : some p8.block ≠ row) (n9 : some p9.block ≠ row) (n10 : some p10.block ≠ row) (n11 : some p11.block ≠ row) (h : w.cell? p0 = some v0 ∧ w.cell? p1 = some v1 ∧ w.cell? p2 = some v2 ∧ w.cell? p3 = some v3 ∧ w.cell? p4 = some v4 ∧ w.cell? p5 = some v5 ∧ w.cell? p6 = some v6 ∧ w.cell? p7 = some v7 ∧ w.cell? p8 = some v8 ∧ w.cell? p9 = some v9 ∧ w.cell? p10 = some v10 ∧ w.cell? p11 = some v11) : w'.cell? p0 = some v0 ∧ w'.cell? p1 = some v1 ∧ w'.cell? p2 = some v2 ∧ w'.cell? p3 = some v3 ∧ w'.cell? p4 = some v4 ∧ w'.cell? p5 = some v5 ∧ w'.cell? p6 = some v6 ∧ w'.cell? p7 = some v7 ∧ w'.cell? p8 = some v8 ∧ w'.cell? p9 = some v9 ∧ w'.cell? p10 = some v10 ∧ w'.cell? p11 = some v11 := by
  obtain ⟨c0, c1, c2, c3, c4, c5, c6, c7, c8, c9, c10, c11⟩ := h
  exact ⟨hg.cell c0 n0, hg.cell c1 n1, hg.cell c2 n2, hg.cell c3 n3, hg.cell c4 n4, hg.cell c5 n5, hg.cell c6 n6, hg.cell c7 n7, hg.cell c8 n8, hg.cell c9 n9, hg.cell c10 n10, hg.cell c11 n11⟩
end
end Go.Proofs.Ythnapjodmndlaaa

/- Position automata in memory; what is behind a letter (the reference's side). -/
namespace Go.Proofs.Ythnapjodmndlaaa
set_option linter.unusedVariables false
set_option linter.unusedSimpArgs false
open Go.ChangeShapes Go.WideShapes Go.ChangeAt Go.RowKit
attribute [local go_sem] ext_cell ext_frozen ext_lt ext_lt1 ext_lt2 ext_lt3 ltn2 ltn3 ltn13 lts1 lts2 lts3

def PzV (lo hi : Nat) (w : World) (v : Value) (p : Pz) : Prop := ∃ vl vf, v = .agg #[vl, .int .i64 p.first, .int .i64 p.last, vf, .bool p.nul] ∧ SlI lo hi w cI 1 vl p.lets ∧ SlI lo hi w cI 1 vf p.fol
theorem PzV.keep {w w' : World} {v : Value} {p : Pz} (h : PzV 0 w.heap.size w v p) (hb : Below w.heap.size w w') : PzV 0 w'.heap.size w' v p := by
  obtain ⟨vl, vf, rfl, h1, h2⟩ := h
  exact ⟨vl, vf, rfl, SlE.keep h1 hb, SlE.keep h2 hb⟩
theorem pz_facts {p : Pz} (h : pzOk p = true) : p.lets.length ≤ 20 ∧ p.fol.length = p.lets.length ∧ (∀ k ∈ p.lets, 0 ≤ k ∧ k ≤ 8) ∧ (∀ s ∈ p.fol, setP p.lets.length s = true) ∧ setP p.lets.length p.first = true ∧ setP p.lets.length p.last = true := by
  simp only [pzOk, Bool.and_eq_true, decide_eq_true_eq, List.all_eq_true] at h
  exact ⟨h.1, h.2.1, h.2.2.1, h.2.2.2.1, h.2.2.2.2.1, h.2.2.2.2.2⟩
theorem setP_lt {n : Nat} {s : Int} (hn : n ≤ 20) (h : setP n s = true) : 0 ≤ s ∧ s.toNat < 2 ^ 20 := by
  simp only [setP, Bool.and_eq_true, decide_eq_true_eq] at h
  have h2 : (2 : Int) ^ n ≤ 2 ^ 20 := by
    have := Nat.pow_le_pow_right (n := 2) (by decide) hn
    exact_mod_cast this
  omega
theorem folP_zero (p : Pz) (s : Nat) : folP p s 0 = if s.testBit 0 = true then p.first.toNat else 0 := rfl
theorem folP_succ (p : Pz) (s i : Nat) : folP p s (i + 1) = if s.testBit (i + 1) = true then folP p s i ||| (p.fol.getD i 0).toNat else folP p s i := by
  rw [folP, List.range_succ, List.foldl_append]
  rfl
theorem aftI_zero (p : Pz) (m : Nat) (k : Int) : aftI p m k 0 = 0 := rfl
theorem aftI_succ (p : Pz) (m : Nat) (k : Int) (i : Nat) : aftI p m k (i + 1) = if (m.testBit i && decide (p.lets.getD i 0 = k)) = true then ins (aftI p m k i) (i + 1) else aftI p m k i := by
  rw [aftI, List.range_succ, List.foldl_append]
  rfl
theorem folP_lt {p : Pz} (h : pzOk p = true) (s : Nat) : ∀ i, folP p s i < 2 ^ 20
  | 0 => by
    rw [folP_zero]
    split
    · exact (setP_lt (pz_facts h).1 (pz_facts h).2.2.2.2.1).2
    · decide
  | i + 1 => by
    rw [folP_succ]
    split
    · refine Nat.or_lt_two_pow (folP_lt h s i) ?_
      by_cases hi : i < p.fol.length
      · have hm : p.fol[i] ∈ p.fol := List.getElem_mem hi
        have := setP_lt (pz_facts h).1 ((pz_facts h).2.2.2.1 _ hm)
        rw [List.getD_eq_getElem?_getD, List.getElem?_eq_getElem hi]
        exact this.2
      · rw [List.getD_eq_getElem?_getD, List.getElem?_eq_none (by omega)]
        decide
    · exact folP_lt h s i
theorem aftI_lt (p : Pz) (m : Nat) (k : Int) : ∀ i, i ≤ 20 → aftI p m k i < 2 ^ 21
  | 0, _ => by rw [aftI_zero]; decide
  | i + 1, hi => by
    rw [aftI_succ]
    split
    · exact Nat.or_lt_two_pow (aftI_lt p m k i (by omega)) (Nat.pow_lt_pow_right (by decide) (by omega))
    · exact aftI_lt p m k i (by omega)
theorem and_one {s : Nat} (hs : s < 2 ^ 62) : bits .and .i64 (s : Int) 1 = if s.testBit 0 = true then 1 else 0 := by
  have := and_bit (m := s) (s := 0) hs (by omega)
  simpa using this
set_option maxHeartbeats 4000000 in
theorem specAfter (v : Value) (p : Pz) (s : Nat) (k : Int) (w : World) (hv : PzV 0 w.heap.size w v p) (hok : pzOk p = true) (hs : s < 2 ^ 21) :
    Calls Try.prog 42 #[v, .int .i64 (s : Int), .int .i64 k] w fun e w' => e = .returned (.int .i64 ((aftP p s k : Nat) : Int)) ∧ Below w.heap.size w w' := by
  obtain ⟨R, hR⟩ : ∃ R, R = aftP p s k := ⟨_, rfl⟩
  rw [← hR]
  have HR := Lib.hid hR
  clear hR
  obtain ⟨vl, vf, rfl, ⟨A, c, rfl, hl, hm, hC⟩, ⟨B, d, rfl, hl2, hm2, hC2⟩⟩ := hv
  have hpf := pz_facts hok
  have HOK := Lib.hid hok
  have HFL := Lib.hid (folP_lt hok s)
  have HF0 := Lib.hid (setP_lt hpf.1 hpf.2.2.2.2.1)
  have HFO := Lib.hid (fun x hx => setP_lt hpf.1 (hpf.2.2.2.1 x hx))
  have HLF := Lib.hid hpf.2.1
  have h20 := hpf.1
  unfold maxLen at hm hm2
  obtain ⟨N, hN⟩ : ∃ N, N = p.lets.length := ⟨_, rfl⟩
  rw [hpf.2.1] at hl2
  rw [← hN] at h20 hl hl2 ⊢
  have HN := Lib.hid hN
  obtain ⟨W0, hW0⟩ : ∃ W0, W0 = w.alloc (.cells #[.slice A N c, .int .i64 p.first, .int .i64 p.last, .slice B p.fol.length d, .bool p.nul] 27) := ⟨_, rfl⟩
  have hbk : Blk W0 w.heap.size 27 #[.slice A N c, .int .i64 p.first, .int .i64 p.last, .slice B p.fol.length d, .bool p.nul] := by rw [hW0]; exact Blk.new w _ _ _ rfl
  have hb0 : Below w.heap.size w W0 := by rw [hW0]; exact (Below.refl _ _).alloc (Nat.le_refl _) _
  have hsz : W0.heap.size = w.heap.size + 1 := by rw [hW0]; simp
  have HC := Lib.hid (show ∀ (i : Nat) x, p.lets[i]? = some x → ∃ b o, A = some ⟨b, o, none⟩ ∧ b < w.heap.size ∧ W0.cell? ⟨b, o + i, none⟩ = some (.int .i64 x) from fun i x hx => by
    obtain ⟨b, o, hA, -, hb, hc⟩ := hC i x hx
    refine ⟨b, o, hA, hb, kcell hb0 ?_⟩
    simpa using hc 0 _ rfl)
  have HC2 := Lib.hid (show ∀ (i : Nat) x, p.fol[i]? = some x → ∃ b o, B = some ⟨b, o, none⟩ ∧ b < w.heap.size ∧ W0.cell? ⟨b, o + i, none⟩ = some (.int .i64 x) from fun i x hx => by
    obtain ⟨b, o, hA, -, hb, hc⟩ := hC2 i x hx
    refine ⟨b, o, hA, hb, kcell hb0 ?_⟩
    simpa using hc 0 _ rfl)
  have HB0 := Lib.hid hb0
  clear hpf hok hC hC2 hN hb0
  go_enter Try.func42, Try.ntmps42
  clear hl hl2 hm hm2
  have x0 : W0.cell? ⟨w.heap.size, 0, none⟩ = some (.slice A N c) := by exact hbk.cell 0
  have x1 : W0.cell? ⟨w.heap.size, 1, none⟩ = some (.int .i64 p.first) := by exact hbk.cell 1
  have x3 : W0.cell? ⟨w.heap.size, 3, none⟩ = some (.slice B p.fol.length d) := by exact hbk.cell 3
  clear hbk
  have HA1 := Lib.hid (and_one (s := s) (by omega))
  go_upto_region 1 with fail
  rw [← hW0]
  clear hW0
  go_upto_if 13 with fail
  go_cut [7] (fun mm wx => mm = .int .i64 ((folP p s 0 : Nat) : Int) ∧ wx = W0)
  case first =>
    have HF := Lib.hid (folP_zero p s)
    cases hb : s.testBit 0 with
    | true =>
      rw [hb, if_pos rfl] at HA1 HF
      have hc : (bits .and .i64 (s : Int) 1 == 1) = true := by rw [HA1.out]; rfl
      have HE := Lib.hid (show (p.first) = ((folP p s 0 : Nat) : Int) by rw [HF.out]; have := HF0.out.1; omega)
      clear hb
      go_wp2_with fail
      go_meet
      exact ⟨by rw [← HE.out], rfl⟩
    | false =>
      rw [hb, if_neg (by simp)] at HA1 HF
      have hc : (bits .and .i64 (s : Int) 1 == 1) = false := by rw [HA1.out]; rfl
      clear hb
      go_wp2_with fail
      go_meet
      exact ⟨by rw [HF.out]; rfl, rfl⟩
  case rest =>
    obtain ⟨rfl, rfl⟩ := hcut
    clear HA1 HF0
    go_wp2_with fail
    go_loopw [7, 8] (fun mm ii wr => ∃ i : Nat, i ≤ N ∧ ii = .int .i64 (i : Int) ∧ mm = .int .i64 ((folP p s i : Nat) : Int) ∧ wr = wc) (fun _ ii _ => N - (intOf ii).toNat)
    case atStart => exact ⟨0, Nat.zero_le _, rfl, rfl, rfl⟩
    case round =>
      obtain ⟨i, hi, rfl, rfl, rfl⟩ := hrel
      by_cases hlt : i < N
      · have hxi : p.fol[i]? = some (p.fol[i]'(by rw [HLF.out, ← HN.out]; exact hlt)) := List.getElem?_eq_getElem _
        have HX := Lib.hid (HFO.out _ (List.mem_of_getElem? hxi))
        have HGD := Lib.hid (show p.fol.getD i 0 = _ by rw [List.getD_eq_getElem?_getD, hxi])
        generalize p.fol[i]'(by rw [HLF.out, ← HN.out]; exact hlt) = x at hxi HX HGD
        obtain ⟨b1, o1, rfl, hb1, d0⟩ := HC2.out i x hxi
        obtain ⟨y, rfl⟩ : ∃ y : Nat, x = (y : Int) := ⟨x.toNat, by have := HX.out.1; omega⟩
        have HFS := Lib.hid (folP_succ p s i)
        have hii : (i : Int) < (N : Int) := by omega
        have hi2 : (i : Int) < (p.fol.length : Int) := by rw [HLF.out, ← HN.out]; omega
        clear hxi
        cases hb : s.testBit (i + 1) with
        | false =>
          rw [hb, if_neg (by simp)] at HFS
          have hc : (bits .and .i64 ((s : Int) / 2 ^ (i + 1)) 1 == 1) = false := by rw [bit_off (by omega) (by omega) hb]; rfl
          clear hb
          go_wp2_with fail
          go_roundw
          case rel => exact ⟨i + 1, by omega, by go_num, by rw [HFS.out], trivial⟩
          case measure => simp [intOf]; omega
        | true =>
          rw [hb, if_pos rfl, HGD.out] at HFS
          have hc : (bits .and .i64 ((s : Int) / 2 ^ (i + 1)) 1 == 1) = true := by rw [bit_on (by omega) (by omega) hb]; rfl
          have hor : bits .or .i64 ((folP p s i : Nat) : Int) (y : Int) = ((folP p s (i + 1) : Nat) : Int) := by
            have h1 := HFL.out i
            have h2 := HX.out.2
            rw [HFS.out]
            exact i64_or_nat _ _ (by omega) (by simp at h2; omega)
          clear hb
          go_wp2_with fail
          go_roundw
          case rel => exact ⟨i + 1, by omega, by go_num, rfl, trivial⟩
          case measure => simp [intOf]; omega
      · obtain rfl : i = N := by omega
        obtain ⟨wo, rfl⟩ : ∃ wo : World, wo = wr := ⟨_, rfl⟩
        obtain ⟨M, hM⟩ : ∃ M, M = folP p s i := ⟨_, rfl⟩
        have hml : M < 2 ^ 20 := by rw [hM]; exact HFL.out i
        rw [← hM]
        have HMM := Lib.hid hM
        clear hM hlt hi HFL
        go_wp2_with fail
        go_loopw [9, 10] (fun oo ii wr => ∃ j : Nat, j ≤ i ∧ ii = .int .i64 (j : Int) ∧ oo = .int .i64 ((aftI p M k j : Nat) : Int) ∧ wr = wo) (fun _ ii _ => i - (intOf ii).toNat)
        case atStart => exact ⟨0, Nat.zero_le _, rfl, rfl, rfl⟩
        case round =>
          obtain ⟨j, hj, rfl, rfl, rfl⟩ := hrel
          by_cases hlj : j < i
          · have hxj : p.lets[j]? = some (p.lets[j]'(by rw [← HN.out]; exact hlj)) := List.getElem?_eq_getElem _
            have HGD := Lib.hid (show p.lets.getD j 0 = _ by rw [List.getD_eq_getElem?_getD, hxj])
            generalize p.lets[j]'(by rw [← HN.out]; exact hlj) = x at hxj HGD
            obtain ⟨b1, o1, rfl, hb1, d0⟩ := HC.out j x hxj
            have HAS := Lib.hid (aftI_succ p M k j)
            have hal := aftI_lt p M k j (by omega)
            have hii : (j : Int) < (i : Int) := by omega
            simp only [Option.getD_some] at HGD
            rw [HGD.out] at HAS
            clear hxj HGD
            cases hb : M.testBit j with
            | false =>
              rw [hb, Bool.false_and, if_neg (by simp)] at HAS
              have hc : (bits .and .i64 ((M : Int) / 2 ^ j) 1 == 1) = false := by rw [bit_off (by omega) (by omega) hb]; rfl
              clear hb
              go_wp2_with fail
              go_roundw
              case rel => exact ⟨j + 1, by omega, by go_num, by rw [HAS.out], trivial⟩
              case measure => simp [intOf]; omega
            | true =>
              have hc : (bits .and .i64 ((M : Int) / 2 ^ j) 1 == 1) = true := by rw [bit_on (by omega) (by omega) hb]; rfl
              rw [hb, Bool.true_and] at HAS
              clear hb
              by_cases hk : x = k
              · rw [if_pos (decide_eq_true hk)] at HAS
                have hkb : (x == k) = true := by simpa using hk
                have hkd : decide (x = k) = true := by simpa using hk
                have hsh := shl_bit2 (s := j + 1) (by omega)
                have hsh3 := shl_bit3 (s := j + 1) (by omega)
                have hor := or_ins (m := aftI p M k j) (s := j + 1) (by omega) (by omega)
                rw [← HAS.out] at hor
                clear hk
                go_wp2_with fail
                go_roundw
                case rel => exact ⟨j + 1, by omega, by go_num, rfl, trivial⟩
                case measure => simp [intOf]; omega
              · rw [if_neg (by simpa using hk)] at HAS
                have hkb : (x == k) = false := by simpa using hk
                have hkd : decide (x = k) = false := by simpa using hk
                clear hk
                go_wp2_with fail
                go_roundw
                case rel => exact ⟨j + 1, by omega, by go_num, by rw [HAS.out], trivial⟩
                case measure => simp [intOf]; omega
          · obtain rfl : j = i := by omega
            go_wp2_with fail
            go_ret
            exact ⟨by rw [HR.out, aftP, ← HN.out, ← HMM.out]; rfl, HB0.out⟩
end Go.Proofs.Ythnapjodmndlaaa

/- An argument that is a position automaton reads as one. -/
namespace Go.Proofs.Ythnapjodmndlaaa
set_option linter.unusedVariables false
set_option linter.unusedSimpArgs false
open Go.ChangeShapes Go.WideShapes Go.ChangeAt Go.RowKit
section
variable {H : Type} {enc : TypeId × Value → H} {w : World} {sp : Nat → Bool} {held : Bool} {b0 : Nat} {v : Value} {d : DataW H} {p : List MemPlace}
set_option maxRecDepth 100000 in
theorem openPositions (hv : Value.okWide Try.prog w .any b0 24 v) (h : DataW.Trod enc Try.prog w 0 sp held 24 v d p) : ∃ q : Pz, PzV 0 w.heap.size w v q := by
  obtain ⟨v0, v1, v2, v3, v4, y0, y1, y2, y3, y4, n, rfl, h0, h1, h2, h3, h4⟩ := open_agg5 Try.underlying24 (by kernel_rfl) (by kernel_rfl) hv h
  obtain ⟨a, ha, _⟩ := DataW.trod_int Try.underlying3 h1
  obtain ⟨b, hb, _⟩ := DataW.trod_int Try.underlying3 h2
  obtain ⟨c, hc, _⟩ := DataW.trod_bool Try.underlying4 h4
  simp only [List.cons.injEq, and_true] at ha hb hc
  subst ha hb hc
  obtain ⟨xs, hx, _⟩ := open_list cI 1 _ Try.underlying22 (by kernel_rfl) (by omega) (elem_int Try.underlying3) h0
  obtain ⟨ys, hy, _⟩ := open_list cI 1 _ Try.underlying22 (by kernel_rfl) (by omega) (elem_int Try.underlying3) h3
  exact ⟨⟨xs, a, b, ys, c⟩, v0, v3, rfl, hx, hy⟩
end
end Go.Proofs.Ythnapjodmndlaaa

