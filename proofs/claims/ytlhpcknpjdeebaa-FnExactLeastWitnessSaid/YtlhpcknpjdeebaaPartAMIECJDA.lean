/- Parts of the proof, joined into one text: LstM, LstI, KeepS, LstS. -/
import Derived.Test.YtlhpcknpjdeebaaPartDMDMHEEH
import Derived.Test.YtlhpcknpjdeebaaPartBEHCIADD
import Derived.Test.YtlhpcknpjdeebaaPartNEFHKDJH
import Derived.Test.YtlhpcknpjdeebaaPartHCBNMMEI
import Derived.Test.YtlhpcknpjdeebaaPartLOMEEABO
import Derived.Test.YtlhpcknpjdeebaaPartFIPIGBAP
import Derived.Test.YtlhpcknpjdeebaaPartJJBMEHBA
import Derived.Test.YtlhpcknpjdeebaaPartPCJDHOHD
import Derived.Test.YtlhpcknpjdeebaaPartGNMHAPIG
import Derived.Test.YtlhpcknpjdeebaaPartLAIGJDJG
/- The least witness, plainly: the greedy walk over the states that are still at the right distance is walk number 0. -/
namespace Go.Proofs.Ytlhpcknpjdeebaa
set_option linter.unusedVariables false
set_option linter.unusedSimpArgs false
open Go.ChangeShapes Go.WideShapes Go.ChangeAt Go.RowKit

theorem aft1_test (a : Au) (l m t u : Nat) : (aft1 a l m t).testBit u = (m.testBit u || decide (mv a t l = (u : Int))) := by
  unfold aft1
  split
  · rename_i h
    rw [ins_test]
    congr 1
    apply decide_eq_decide.2
    omega
  · rename_i h
    have : ¬ mv a t l = (u : Int) := by omega
    simp [this]
theorem aftF1_test (a : Au) (l u : Nat) : ∀ (L : List Nat) (m : Nat), (L.foldl (aft1 a l) m).testBit u = (m.testBit u || L.any fun t => decide (mv a t l = (u : Int)))
  | [], m => by simp
  | t :: L, m => by rw [List.foldl_cons, aftF1_test a l u L, aft1_test, List.any_cons, Bool.or_assoc]
theorem aftFS_test (a : Au) (v l u : Nat) : ∀ (L : List Nat) (m : Nat), (L.foldl (aftS a v l) m).testBit u = (m.testBit u || L.any fun s => (mem 12 (cls a v s)).any fun t => decide (mv a t l = (u : Int)))
  | [], m => by simp
  | s :: L, m => by rw [List.foldl_cons, aftFS_test a v l u L, aftS, aftF1_test, List.any_cons, Bool.or_assoc]
theorem aft_test (a : Au) (S v l u : Nat) : (aft a S v l).testBit u = (mem 12 S).any fun s => (mem 12 (cls a v s)).any fun t => decide (mv a t l = (u : Int)) := by rw [aft, aftFS_test, Nat.zero_testBit, Bool.false_or]
theorem test_lt {n S s : Nat} (hS : S < 2 ^ n) (h : S.testBit s = true) : s < n := by
  rcases Nat.lt_or_ge s n with h1 | h1
  · exact h1
  · rw [Nat.testBit_lt_two_pow (Nat.lt_of_lt_of_le hS (Nat.pow_le_pow_right (by omega) h1))] at h; cases h
theorem aft_any {a : Au} (ha : auOk a = true) {S : Nat} (hS : S < 2 ^ a.accept.length) (v l u : Nat) : (aft a S v l).testBit u = true ↔ ∃ s, S.testBit s = true ∧ (aft a (bit s) v l).testBit u = true := by
  have hn := (auOk_iff.1 ha).1.2
  rw [aft_test, List.any_eq_true]
  constructor
  · rintro ⟨s, hs, h⟩
    rw [mem_mem] at hs
    exact ⟨s, hs.2, by rw [aft_test, mem_pow hs.1, List.any_cons, h]; rfl⟩
  · rintro ⟨s, hs, h⟩
    have hs12 : s < 12 := by have := test_lt hS hs; omega
    rw [aft_test, mem_pow hs12] at h
    exact ⟨s, mem_mem.2 ⟨hs12, hs⟩, by simpa using h⟩
/-- vertex (x, q) reaches an accepting end at y in exactly f steps -/
def hitK (g : Gr) (a : Au) (y f x q : Nat) : Prop := toG (nextI g a) (fun i => i ∈ goalsL g a y) f (x * a.accept.length + q)
theorem div_vx {n x q : Nat} (hq : q < n) : (x * n + q) / n = x := by
  rw [Nat.mul_comm, Nat.mul_add_div (by omega), Nat.div_eq_of_lt hq]; rfl
theorem mod_vx {n x q : Nat} (hq : q < n) : (x * n + q) % n = q := by rw [Nat.mul_comm, Nat.mul_add_mod, Nat.mod_eq_of_lt hq]
theorem mem_nextI {g : Gr} {a : Au} (ha : auOk a = true) {x q v : Nat} (hq : q < a.accept.length) : v ∈ nextI g a (x * a.accept.length + q) ↔ ∃ p ∈ arcsOf g (x : Int), ∃ t, (aft a (bit q) (valAt g x) p.2.1.toNat).testBit t = true ∧ v = p.2.2.toNat * a.accept.length + t := by
  have hn := (auOk_iff.1 ha).1.2
  rw [nextI, div_vx hq, mod_vx hq, nextV, List.mem_flatMap]
  constructor
  · rintro ⟨p, hp, h⟩
    obtain ⟨t, ht, rfl⟩ := List.mem_map.1 h
    exact ⟨p, hp, t, (mem_mem.1 ht).2, rfl⟩
  · rintro ⟨p, hp, t, ht, rfl⟩
    have := test_lt (aft_lt ha (bit q) (valAt g x) p.2.1.toNat) ht
    exact ⟨p, hp, List.mem_map.2 ⟨t, mem_mem.2 ⟨by omega, ht⟩, rfl⟩⟩
theorem hit_zero {g : Gr} {a : Au} {y x q : Nat} (hq : q < a.accept.length) : hitK g a y 0 x q ↔ x = y ∧ accC a (valAt g y) q = true := by
  show x * a.accept.length + q ∈ goalsL g a y ↔ _
  rw [mem_goalsL]
  constructor
  · rintro ⟨s, hs, hc, he⟩
    have h1 := congrArg (· / a.accept.length) he
    have h2 := congrArg (· % a.accept.length) he
    simp only [div_vx hq, div_vx hs, mod_vx hq, mod_vx hs] at h1 h2
    subst h1 h2
    exact ⟨rfl, hc⟩
  · rintro ⟨rfl, h⟩
    exact ⟨q, hq, h, rfl⟩
theorem hit_succ {g : Gr} {a : Au} (ha : auOk a = true) {y f x q : Nat} (hq : q < a.accept.length) : hitK g a y (f + 1) x q ↔ ∃ p ∈ arcsOf g (x : Int), ∃ t, (aft a (bit q) (valAt g x) p.2.1.toNat).testBit t = true ∧ hitK g a y f p.2.2.toNat t := by
  show (∃ k ∈ nextI g a (x * a.accept.length + q), toG (nextI g a) (fun i => i ∈ goalsL g a y) f k) ↔ _
  constructor
  · rintro ⟨k, hk, h⟩
    obtain ⟨p, hp, t, ht, rfl⟩ := (mem_nextI ha hq).1 hk
    exact ⟨p, hp, t, ht, h⟩
  · rintro ⟨p, hp, t, ht, h⟩
    exact ⟨_, (mem_nextI ha hq).2 ⟨p, hp, t, ht, rfl⟩, h⟩
theorem fold_pos {g : Gr} {a : Au} {y : Int} {f x s : Nat} : ∀ (l : List Arc) (m : Nat), 0 < l.foldl (cwStep g a (cw g a y f) x s) m ↔ 0 < m ∨ ∃ p ∈ l, 0 < cwAt g a y f x s p
  | [], m => by simp
  | p :: l, m => by
    rw [List.foldl_cons, fold_pos l]
    have hs : cwStep g a (cw g a y f) x s m p = min 1000000 (m + cwAt g a y f x s p) := rfl
    rw [hs]
    constructor
    · rintro (h | ⟨q, hq, h⟩)
      · rcases Nat.eq_zero_or_pos m with h0 | h0
        · exact .inr ⟨p, List.mem_cons_self .., by omega⟩
        · exact .inl h0
      · exact .inr ⟨q, List.mem_cons_of_mem _ hq, h⟩
    · rintro (h | ⟨q, hq, h⟩)
      · exact .inl (by omega)
      · rcases List.mem_cons.1 hq with rfl | hq
        · exact .inl (by omega)
        · exact .inr ⟨q, hq, h⟩
theorem cw_pos {g : Gr} {a : Au} (ha : auOk a = true) {y : Nat} : ∀ {f x s : Nat}, s < 2 ^ a.accept.length → (0 < cw g a (y : Int) f x s ↔ ∃ q, s.testBit q = true ∧ hitK g a y f x q)
  | 0, x, s, hs => by
    have hn := (auOk_iff.1 ha).1.2
    rw [cw]
    have e : (decide ((x : Int) = (y : Int)) && acc a s (valAt g x)) = true ↔ ∃ q, s.testBit q = true ∧ hitK g a y 0 x q := by
      rw [Bool.and_eq_true, decide_eq_true_eq, acc, List.any_eq_true]
      constructor
      · rintro ⟨hxy, q, hq, h⟩
        obtain rfl : x = y := by omega
        have h2 := (mem_mem.1 hq).2
        exact ⟨q, h2, (hit_zero (test_lt hs h2)).2 ⟨rfl, h⟩⟩
      · rintro ⟨q, hq, h⟩
        have hql := test_lt hs hq
        obtain ⟨rfl, h2⟩ := (hit_zero hql).1 h
        exact ⟨rfl, q, mem_mem.2 ⟨by omega, hq⟩, h2⟩
    rw [← e]
    split <;> simp_all
  | f + 1, x, s, hs => by
    rw [cw, fold_pos]
    constructor
    · rintro (h | ⟨p, hp, h⟩)
      · omega
      · rw [cwAt, cw_pos ha (aft_lt ha _ _ _)] at h
        obtain ⟨t, ht, h⟩ := h
        obtain ⟨q, hq, ht⟩ := (aft_any ha hs _ _ _).1 ht
        exact ⟨q, hq, (hit_succ ha (test_lt hs hq)).2 ⟨p, hp, t, ht, h⟩⟩
    · rintro ⟨q, hq, h⟩
      obtain ⟨p, hp, t, ht, h⟩ := (hit_succ ha (test_lt hs hq)).1 h
      refine .inr ⟨p, hp, ?_⟩
      rw [cwAt, cw_pos ha (aft_lt ha _ _ _)]
      exact ⟨t, (aft_any ha hs _ _ _).2 ⟨q, hq, ht⟩, h⟩

/-! ### The greedy walk -/
def keepTo (D : List Int) (n x set f : Nat) : Nat → Nat
  | 0 => 0
  | q + 1 => if (set.testBit q && (D.getD (x * n + q) 0 == (f : Int))) = true then ins (keepTo D n x set f q) q else keepTo D n x set f q
theorem keepTo_test (D : List Int) (n x set f u : Nat) : ∀ k, (keepTo D n x set f k).testBit u = true ↔ u < k ∧ set.testBit u = true ∧ D.getD (x * n + u) 0 = (f : Int)
  | 0 => by simp [keepTo]
  | k + 1 => by
    rw [keepTo]
    split
    · rename_i h
      rw [Bool.and_eq_true, beq_iff_eq] at h
      rw [ins_test, Bool.or_eq_true, keepTo_test D n x set f u k, decide_eq_true_eq]
      constructor
      · rintro (⟨h1, h2⟩ | rfl)
        · exact ⟨by omega, h2⟩
        · exact ⟨by omega, h⟩
      · rintro ⟨h1, h2⟩
        by_cases hk : k = u
        · exact .inr hk
        · exact .inl ⟨by omega, h2⟩
    · rename_i h
      rw [Bool.and_eq_true, beq_iff_eq] at h
      rw [keepTo_test D n x set f u k]
      constructor
      · rintro ⟨h1, h2⟩; exact ⟨by omega, h2⟩
      · rintro ⟨h1, h2⟩
        refine ⟨?_, h2⟩
        by_cases hk : u = k
        · subst hk; exact absurd h2 h
        · omega
theorem keepTo_lt (D : List Int) (n x set f : Nat) : ∀ k, keepTo D n x set f k < 2 ^ k
  | 0 => by simp [keepTo]
  | k + 1 => by
    have h := keepTo_lt D n x set f k
    have h2 : keepTo D n x set f k < 2 ^ (k + 1) := Nat.lt_of_lt_of_le h (Nat.pow_le_pow_right (by omega) (by omega))
    rw [keepTo]
    split
    · exact ins_lt h2 (by omega)
    · exact h2
def keepK (a : Au) (D : List Int) (x set f : Nat) : Nat := keepTo D a.accept.length x set f a.accept.length
def keepA (g : Gr) (a : Au) (D : List Int) (f x s : Nat) (p : Arc) : Nat := keepK a D p.2.2.toNat (aft a s (valAt g x) p.2.1.toNat) f
/-- the walk's steps, with f steps left -/
def lwL (g : Gr) (a : Au) (D : List Int) : Nat → Nat → Nat → List St
  | 0, _, _ => []
  | f + 1, x, s => match (arcsOf g (x : Int)).find? (fun p => decide (keepA g a D f x s p ≠ 0)) with
    | none => lwL g a D f x s
    | some p => p.1 :: lwL g a D f p.2.2.toNat (keepA g a D f x s p)
theorem find_congr {α : Type} {p q : α → Bool} : ∀ {l : List α}, (∀ x ∈ l, p x = q x) → l.find? p = l.find? q
  | [], _ => rfl
  | x :: l, h => by
    rw [List.find?_cons, List.find?_cons, h x (List.mem_cons_self ..), find_congr (fun y hy => h y (List.mem_cons_of_mem _ hy))]
theorem pick_zero {α : Type} (k : α → Nat) : ∀ l : List α, pick k l 0 = (l.find? fun p => decide (0 < k p)).map fun p => (p, 0)
  | [] => rfl
  | p :: l => by
    rw [pick, List.find?_cons]
    by_cases h : 0 < k p
    · simp [h]
    · have h2 : k p = 0 := by omega
      simp [h2, pick_zero k l]
/-- S: the states of the walk so far; K: those of them at distance f; none is nearer -/
structure KeepI (g : Gr) (a : Au) (y f x S K : Nat) : Prop where
  far : ∀ q, S.testBit q = true → ∀ m, m < f → ¬ hitK g a y m x q
  kept : ∀ q, K.testBit q = true ↔ S.testBit q = true ∧ hitK g a y f x q
theorem ne_zero_iff {m : Nat} : m ≠ 0 ↔ ∃ q, m.testBit q = true := by
  constructor
  · exact Nat.exists_testBit_of_ne_zero
  · rintro ⟨q, hq⟩ rfl
    simp at hq
theorem dist_eq {g : Gr} {a : Au} {y : Nat} (hg : grOk g = true) (ha : auOk a = true) (hy : y < g.vals.length) {x q : Nat} (hx : x < g.vals.length) (hq : q < a.accept.length) (f : Nat) :
    (distTo g a (y : Int)).getD (x * a.accept.length + q) 0 = (f : Int) ↔ hitK g a y f x q ∧ ∀ m, m < f → ¬ hitK g a y m x q := by
  have hd : (wi (y : Int) 0 ((g.vals.length : Int) - 1) && (grOk g && auOk a)) = true := by
    simp only [Bool.and_eq_true]
    exact ⟨by rw [wi_iff]; omega, hg, ha⟩
  have hN : ∀ i k, i < g.vals.length * a.accept.length → k ∈ nextI g a i → k < g.vals.length * a.accept.length := fun i k _ hk => nextV_lt (grOk_iff.1 hg) ha hk
  have hfs : ∀ i ∈ goalsL g a y, i < g.vals.length * a.accept.length := fun i hi => by
    obtain ⟨s, hs, _, rfl⟩ := mem_goalsL.1 hi
    calc y * a.accept.length + s < y * a.accept.length + a.accept.length := by omega
      _ = (y + 1) * a.accept.length := by rw [Nat.add_mul, Nat.one_mul]
      _ ≤ _ := Nat.mul_le_mul_right _ hy
  have hi : x * a.accept.length + q < g.vals.length * a.accept.length := by
    calc x * a.accept.length + q < x * a.accept.length + a.accept.length := by omega
      _ = (x + 1) * a.accept.length := by rw [Nat.add_mul, Nat.one_mul]
      _ ≤ _ := Nat.mul_le_mul_right _ hx
  have h := spread_dist hfs hN _ hi
  have he : (distTo g a (y : Int)).getD (x * a.accept.length + q) 0 = (spreadR (g.vals.length * a.accept.length) (turnL (g.vals.length * a.accept.length) (nextI g a)) (goalsL g a y)).getD (x * a.accept.length + q) 0 := by rw [distTo, if_pos hd, Int.toNat_natCast]
  rw [← he] at h
  constructor
  · intro hf
    rcases h with ⟨h1, -⟩ | ⟨h1, h2, h3⟩
    · omega
    · rw [hf, Int.toNat_natCast] at h2 h3
      exact ⟨h2, h3⟩
  · rintro ⟨h1, h2⟩
    exact h.uniq (.inr ⟨by omega, by rw [Int.toNat_natCast]; exact h1, by rw [Int.toNat_natCast]; exact h2⟩)
theorem KeepI.step {g : Gr} {a : Au} {y : Nat} (hg : grOk g = true) (ha : auOk a = true) (hy : y < g.vals.length) {f x S K : Nat} (hS : S < 2 ^ a.accept.length) (hK : K < 2 ^ a.accept.length) (h : KeepI g a y (f + 1) x S K) {p : Arc} (hp : p ∈ arcsOf g (x : Int)) :
    KeepI g a y f p.2.2.toNat (aft a S (valAt g x) p.2.1.toNat) (keepA g a (distTo g a (y : Int)) f x K p) := by
  have hr := arc_range (grOk_iff.1 hg) hp
  have hx : p.2.2.toNat < g.vals.length := by omega
  have far : ∀ q, (aft a S (valAt g x) p.2.1.toNat).testBit q = true → ∀ m, m < f → ¬ hitK g a y m p.2.2.toNat q := fun q hq m hm hh => by
    obtain ⟨s, hs, hq⟩ := (aft_any ha hS _ _ _).1 hq
    exact h.far s hs (m + 1) (by omega) ((hit_succ ha (test_lt hS hs)).2 ⟨p, hp, q, hq, hh⟩)
  refine ⟨far, fun q => ?_⟩
  rw [keepA, keepK, keepTo_test]
  constructor
  · rintro ⟨h1, h2, h3⟩
    obtain ⟨s, hs, hq⟩ := (aft_any ha hK _ _ _).1 h2
    exact ⟨(aft_any ha hS _ _ _).2 ⟨s, ((h.kept s).1 hs).1, hq⟩, ((dist_eq hg ha hy hx h1 f).1 h3).1⟩
  · rintro ⟨h1, h2⟩
    have hql := test_lt (aft_lt ha S (valAt g x) p.2.1.toNat) h1
    obtain ⟨s, hs, hq⟩ := (aft_any ha hS _ _ _).1 h1
    refine ⟨hql, (aft_any ha hK _ _ _).2 ⟨s, (h.kept s).2 ⟨hs, (hit_succ ha (test_lt hS hs)).2 ⟨p, hp, q, hq, h2⟩⟩, hq⟩, (dist_eq hg ha hy hx hql f).2 ⟨h2, far q h1⟩⟩
theorem lw_nth {g : Gr} {a : Au} {y : Nat} (hg : grOk g = true) (ha : auOk a = true) (hy : y < g.vals.length) : ∀ {f x S K : Nat}, S < 2 ^ a.accept.length → K < 2 ^ a.accept.length → KeepI g a y f x S K → 0 < cw g a (y : Int) f x S →
    lwL g a (distTo g a (y : Int)) f x K = nthL g a (y : Int) f x S 0
  | 0, x, S, K, _, _, _, _ => rfl
  | f + 1, x, S, K, hS, hK, h, hc => by
    have hst := fun p hp => h.step hg ha hy hS hK (p := p) hp
    have hfe : (arcsOf g (x : Int)).find? (fun p => decide (keepA g a (distTo g a (y : Int)) f x K p ≠ 0)) = (arcsOf g (x : Int)).find? (fun p => decide (0 < cwAt g a (y : Int) f x S p)) := by
      refine find_congr fun p hp => decide_eq_decide.2 ?_
      rw [ne_zero_iff, cwAt, cw_pos ha (aft_lt ha _ _ _)]
      constructor
      · rintro ⟨q, hq⟩; exact ⟨q, ((hst p hp).kept q).1 hq⟩
      · rintro ⟨q, hq⟩; exact ⟨q, ((hst p hp).kept q).2 hq⟩
    obtain ⟨p, n', e1, e2, e3⟩ := pick_cw hc
    have e0 := e1
    rw [pick_zero] at e0
    cases hf : (arcsOf g (x : Int)).find? (fun p => decide (0 < cwAt g a (y : Int) f x S p)) with
    | none => rw [hf] at e0; cases e0
    | some p' =>
      rw [hf] at e0
      injection e0 with e0
      injection e0 with e4 e5
      subst e4 e5
      rw [nthL_succ e1, lwL, hfe, hf]
      have hlt : keepA g a (distTo g a (y : Int)) f x K p' < 2 ^ a.accept.length := keepTo_lt ..
      exact congrArg _ (lw_nth hg ha hy (aft_lt ha _ _ _) hlt (hst p' e3) e2)
/-- the reference's least witness -/
def lstShort (g : Gr) (a : Au) (x y : Int) : Wk × Bool := if shortLen g a x y < 0 then ((0, []), false) else ((x, lwL g a (distTo g a y) (shortLen g a x y).toNat x.toNat (bit a.start.toNat)), true)
theorem lst_nth (g : Gr) (a : Au) (x y : Int) : lstShort g a x y = nthShort g a x y 0 := by
  unfold lstShort
  by_cases h : shortLen g a x y < 0
  · rw [if_pos h, nthShort, if_neg]
    rw [nthSh, decide_eq_false (by omega)]; simp
  · rw [if_neg h]
    obtain ⟨⟨hx0, hx1⟩, ⟨hy0, hy1⟩, hg, ha⟩ := cntOk_iff.1 (shortLen_ok (show 0 ≤ shortLen g a x y by omega))
    obtain ⟨x, rfl⟩ := Int.eq_ofNat_of_zero_le hx0
    obtain ⟨y, rfl⟩ := Int.eq_ofNat_of_zero_le hy0
    have hs : a.start.toNat < a.accept.length := by have := (auOk_iff.1 ha).2.1; omega
    have hd := shortLen_dist hg ha (show x < g.vals.length by omega) (show y < g.vals.length by omega)
    obtain ⟨L, hL⟩ := Int.eq_ofNat_of_zero_le (show 0 ≤ shortLen g a (x : Int) (y : Int) by omega)
    rw [hL] at hd
    rcases hd with ⟨h1, -⟩ | ⟨-, h1, h2⟩
    · omega
    rw [Int.toNat_natCast] at h1 h2
    have hb : ∀ q, (bit a.start.toNat).testBit q = true → q = a.start.toNat := fun q hq => by rw [bit_test, decide_eq_true_eq] at hq; exact hq.symm
    have hI : KeepI g a y L x (bit a.start.toNat) (bit a.start.toNat) := by
      refine ⟨fun q hq m hm => ?_, fun q => ⟨fun hq => ⟨hq, ?_⟩, fun hq => hq.1⟩⟩
      · rw [hb q hq]; exact h2 m hm
      · rw [hb q hq]; exact h1
    have hc : 0 < cw g a (y : Int) L x (bit a.start.toNat) := (cw_pos ha (bit_lt hs)).2 ⟨a.start.toNat, by rw [bit_test]; simp, h1⟩
    have hsh : nthSh g a (x : Int) (y : Int) 0 = true := by
      rw [nthSh, decide_eq_true (by omega), Bool.true_and, hL, Int.toNat_natCast, wi_iff]
      have : cwI g a (x : Int) (y : Int) L = cw g a (y : Int) L x (bit a.start.toNat) := rfl
      omega
    rw [nthShort, if_pos hsh, hL, Int.toNat_natCast, Int.toNat_natCast, lw_nth hg ha (by omega) (bit_lt hs) (bit_lt hs) hI hc]
    rfl
end Go.Proofs.Ytlhpcknpjdeebaa

/- The program's LeastWitness. -/
namespace Go.Proofs.Ytlhpcknpjdeebaa
set_option linter.unusedVariables false
set_option linter.unusedSimpArgs false
open Go.ChangeShapes Go.WideShapes Go.ChangeAt Go.RowKit Go.Maps
attribute [local go_sem] ext_cell ext_frozen ext_lt ext_lt1 ext_lt2 ext_lt3 ltn2 ltn3 ltn13 lts1 lts2 lts3

theorem lstShort_len (g : Gr) (a : Au) (x y : Int) : (lstShort g a x y).1.2.length ≤ 60 := by rw [lst_nth]; exact nthShort_len ..
set_option maxHeartbeats 8000000 in
set_option maxRecDepth 100000 in
theorem implLeastWitness (vg va : Value) (g : Gr) (a : Au) (x y : Int) (w : World) (hgv : GrV 0 w.heap.size w vg g) (hav : AuV 0 w.heap.size w va a) :
    Calls Try.prog 25 #[vg, va, .int .i64 x, .int .i64 y] w fun e w' => ∃ v', e = .returned (.tuple #[v', .bool (lstShort g a x y).2]) ∧ WkO w.heap.size w'.heap.size w' v' (lstShort g a x y).1 ∧ Below w.heap.size w w' := by
  have hgv0 := hgv
  have hav0 := hav
  obtain ⟨A1, n1, c1, A2, n2, c2, rfl⟩ := hgv.shape
  obtain ⟨A3, n3, c3, A4, n4, c4, rfl⟩ := hav.shape
  have hb0 : Below w.heap.size w (((w.alloc (.cells #[.slice A1 n1 c1, .slice A2 n2 c2] 39)).alloc (.cells #[.int .i64 a.start, .slice A3 n3 c3, .slice A4 n4 c4] 41)).alloc (.cells #[.int .i64 0, .slice none 0 0] 34)) := (((Below.refl _ _).alloc (Nat.le_refl _) _).alloc (by simp) _).alloc (by simp; omega) _
  have hbG := ((Blk.new w 39 #[.slice A1 n1 c1, .slice A2 n2 c2] w.heap.size rfl).alloc (.cells #[.int .i64 a.start, .slice A3 n3 c3, .slice A4 n4 c4] 41)).alloc (.cells #[.int .i64 0, .slice none 0 0] 34)
  have hbA := (Blk.new (w.alloc (.cells #[.slice A1 n1 c1, .slice A2 n2 c2] 39)) 41 #[.int .i64 a.start, .slice A3 n3 c3, .slice A4 n4 c4] (w.heap.size + 1) (by simp)).alloc (.cells #[.int .i64 0, .slice none 0 0] 34)
  have hbR := Blk.new ((w.alloc (.cells #[.slice A1 n1 c1, .slice A2 n2 c2] 39)).alloc (.cells #[.int .i64 a.start, .slice A3 n3 c3, .slice A4 n4 c4] 41)) 34 #[.int .i64 0, .slice none 0 0] (w.heap.size + 1 + 1) (by simp)
  have HBG := Lib.hid hbG
  have HBA := Lib.hid hbA
  have HBR := Lib.hid hbR
  have HGV := Lib.hid hgv0
  have HAV := Lib.hid hav0
  have HB0 := Lib.hid hb0
  have HSL := Lib.hid (fun (W : World) (hW : Below w.heap.size w W) => implShortestLength _ _ g a x y W (HGV.out.keep hW) (HAV.out.keep hW))
  clear hgv hav hgv0 hav0 hb0 hbG hbA hbR
  have HNS := fun (W : World) (hW : Below w.heap.size w W) => implNthShortest _ _ g a x y 0 W (HGV.out.keep hW) (HAV.out.keep hW)
  rw [← lst_nth] at HNS
  obtain ⟨R, hR⟩ : ∃ R, R = lstShort g a x y := ⟨_, rfl⟩
  rw [← hR] at HNS ⊢
  replace HNS := Lib.hid HNS
  clear hR HSL
  go_enter Try.func25, Try.ntmps25
  go_wp2_with fail
  refine (HNS.out _ HB0.out).mono ?_
  rintro e w1 ⟨v1, rfl, ⟨ss, rfl, hss⟩, hb1⟩
  obtain ⟨A9, n9, c9, rfl⟩ := hss.shape
  have hb2 := below_trans HB0.out hb1
  have bR := HBR.out.keep hb1
  have r0 : w1.cell? ⟨w.heap.size + 1 + 1, 0, none⟩ = some (.int .i64 0) := bR.cell 0
  have r1 : w1.cell? ⟨w.heap.size + 1 + 1, 1, none⟩ = some (.slice none 0 0) := bR.cell 1
  have fr0 := bR.frozen 0
  have fr1 := bR.frozen 1
  have lr := bR.lt
  clear bR
  have hsz := HB0.out.size
  have lr0 := HBR.out.lt
  have hon3 := ((Only.refl (w.heap.size + 1 + 1) (w.heap.size + 1 + 1 + 1) w1).setCell (p := ⟨w.heap.size + 1 + 1, 0, none⟩) (.inl ⟨Nat.le_refl _, Nat.lt_succ_self _⟩) (.int .i64 R.1.1)).setCell (p := ⟨w.heap.size + 1 + 1, 1, none⟩) (.inl ⟨Nat.le_refl _, Nat.lt_succ_self _⟩) (.slice A9 n9 c9)
  have HO5 := Lib.hid ((hss.only hon3 (.inr lr0)).mono hsz hon3.size)
  have HB5 := Lib.hid (hb2.trans (hon3.below (show w.heap.size ≤ w.heap.size + 1 + 1 by omega) hb2.size))
  clear hss hb1 hb2 hon3 hsz lr0
  go_wp2_with fail
  refine bodyPost_ret (v := .tuple #[.agg #[.int .i64 R.1.1, .slice A9 n9 c9], .bool R.2]) (by simp [results, Try.results25, go_sem, r0, r1]) rfl ⟨_, rfl, ?_, HB5.out⟩
  exact ⟨_, rfl, HO5.out⟩
end Go.Proofs.Ytlhpcknpjdeebaa

/- The reference's l18Keep: the states of a set that are at the right distance. -/
namespace Go.Proofs.Ytlhpcknpjdeebaa
set_option linter.unusedVariables false
set_option linter.unusedSimpArgs false
open Go.ChangeShapes Go.WideShapes Go.ChangeAt Go.RowKit
attribute [local go_sem] ext_cell ext_frozen ext_lt ext_lt1 ext_lt2 ext_lt3 ltn2 ltn3 ltn13 lts1 lts2 lts3

theorem keepTo_yes {D : List Int} {n x set f q : Nat} (h : set.testBit q = true) (h2 : D.getD (x * n + q) 0 = (f : Int)) : keepTo D n x set f (q + 1) = ins (keepTo D n x set f q) q := by rw [keepTo, if_pos (by rw [h, h2, beq_self_eq_true]; rfl)]
theorem keepTo_no {D : List Int} {n x set f q : Nat} (h : set.testBit q = false ∨ D.getD (x * n + q) 0 ≠ (f : Int)) : keepTo D n x set f (q + 1) = keepTo D n x set f q := by
  rw [keepTo, if_neg]
  rw [Bool.and_eq_true, beq_iff_eq]
  rintro ⟨h1, h2⟩
  rcases h with h | h
  · rw [h] at h1; cases h1
  · exact h h2
set_option maxHeartbeats 4000000 in
set_option maxRecDepth 100000 in
theorem l18Keep_any (v : Value) (D : List Int) (n x set f : Nat) (w : World) (hv : SlE w cI 1 v D) (hDl : x * n + n ≤ D.length) (hD : D.length ≤ 60) (hn : n ≤ 12) (hset : set < 4096) (hf : f ≤ 60) :
    Calls Try.prog 68 #[v, .int .i64 (n : Int), .int .i64 (x : Int), .int .i64 (set : Int), .int .i64 (f : Int)] w fun e w' => e = .returned (.int .i64 (keepTo D n x set f n : Nat)) ∧ Below w.heap.size w w' := by
  obtain ⟨A1, c1, rfl, hl1, hm1, hC1⟩ := hv.form
  obtain ⟨P, hP⟩ : ∃ P, P = x * n := ⟨_, rfl⟩
  have hPl : P + n ≤ D.length := by rw [hP]; exact hDl
  have m1' : (x : Int) * (n : Int) = (P : Int) := by rw [hP, Int.natCast_mul]
  have m1 : IntKind.i64.wrap ((x : Int) * (n : Int)) = (P : Int) := by rw [m1']; exact IntWalk.i64_in _ (by omega)
  have HC1 := Lib.hid hC1
  have HP := Lib.hid hP
  have HM1 := Lib.hid m1
  have HM1' := Lib.hid m1'
  clear hv hC1 hDl hP m1 m1'
  go_enter Try.func68, Try.ntmps68
  go_wp2_with fail
  go_loopw [11, 12] (fun mm qq wr => ∃ (q : Nat) (u : World), q ≤ n ∧ qq = .int .i64 (q : Int) ∧ mm = .int .i64 (keepTo D n x set f q : Nat) ∧ wr = ext w u) (fun _ qq _ => n - (intOf qq).toNat)
  case atStart => exact ⟨0, w, Nat.zero_le _, rfl, rfl, ext_self _⟩
  case round =>
    obtain ⟨q, u, hq, rfl, rfl, rfl⟩ := hrel
    by_cases hlq : q < n
    · have hqi : (q : Int) < (n : Int) := by omega
      cases hb : set.testBit q with
      | false =>
        have e3' := bit_off (by omega) (by omega) hb
        have HR := Lib.hid (show keepTo D n x set f q = keepTo D n x set f (q + 1) from (keepTo_no (.inl hb)).symm)
        clear hb
        go_wp2_with fail
        go_roundw
        case rel => exact ⟨q + 1, u, by omega, by go_num, by rw [← HR.out], rfl⟩
        case measure => simp [intOf]; omega
      | true =>
        have e3' := bit_on (by omega) (by omega) hb
        have hdi := getD_of (D := D) (k := P + q) (by omega)
        obtain ⟨b6, o6, rfl, hb6, d6⟩ := HC1.out.int hdi
        have hY := fun h => keepTo_yes (D := D) (n := n) (x := x) (f := f) hb h
        have hN := fun h => keepTo_no (D := D) (n := n) (x := x) (set := set) (f := f) (q := q) (.inr h)
        rw [← HP.out] at hY hN
        have HY := Lib.hid hY
        have HN := Lib.hid hN
        have hkl := keepTo_lt D n x set f q
        have hkl2 : keepTo D n x set f q < 4096 := Nat.lt_of_lt_of_le hkl (Nat.pow_le_pow_right (by omega) (show q ≤ 12 by omega))
        have m1 := HM1.out
        have hpq : (P : Int) + (q : Int) = ((P + q : Nat) : Int) := by omega
        have m2 : IntKind.i64.wrap ((P : Int) + (q : Int)) = ((P + q : Nat) : Int) := by rw [hpq]; exact IntWalk.i64_in _ (by omega)
        have hpd : ((P + q : Nat) : Int) < (D.length : Int) := by omega
        clear hb hY hN hdi hkl
        generalize D.getD (P + q) 0 = dv at *
        obtain ⟨J, hJ⟩ : ∃ J, J = P + q := ⟨_, rfl⟩
        rw [← hJ] at d6 m2 hpd hpq
        clear hJ
        by_cases hd : dv = (f : Int)
        · have HR := Lib.hid (HY.out hd)
          have e1 := shl_bit (s := q) (by omega)
          generalize keepTo D n x set f q = M at *
          have e2 := or_ins (m := M) (s := q) (by omega) (by omega)
          have hde : (dv == (f : Int)) = true := by simpa using hd
          clear hd
          go_wp2_with fail
          go_roundw
          case rel => exact ⟨q + 1, u, by omega, by go_num, by rw [HR.out], rfl⟩
          case measure => simp [intOf]; omega
        · have HR := Lib.hid (HN.out hd)
          have hde : (dv == (f : Int)) = false := by simpa using hd
          generalize keepTo D n x set f q = M at *
          clear hd
          go_wp2_with fail
          go_roundw
          case rel => exact ⟨q + 1, u, by omega, by go_num, by rw [HR.out], rfl⟩
          case measure => simp [intOf]; omega
    · obtain rfl : q = n := by omega
      go_wp2_with fail
      go_ret
      exact ⟨rfl, ext_below w u⟩
end Go.Proofs.Ytlhpcknpjdeebaa

/- The reference's LeastWitness. -/
namespace Go.Proofs.Ytlhpcknpjdeebaa
set_option linter.unusedVariables false
set_option linter.unusedSimpArgs false
open Go.ChangeShapes Go.WideShapes Go.ChangeAt Go.RowKit
attribute [local go_sem] ext_cell ext_frozen ext_lt ext_lt1 ext_lt2 ext_lt3 ltn2 ltn3 ltn13 lts1 lts2 lts3

theorem elStW : ElemOk Try.prog 32 96 (.agg #[.int .i64 0, .bool false]) 2 16 := ⟨Try.underlying32, by kernel_rfl, rfl, by omega⟩
theorem lwL_hit {g : Gr} {a : Au} {D : List Int} {f x s j : Nat} {p : Arc} (h : (arcsOf g (x : Int))[j]? = some p) (hno : ∀ r q, r < j → (arcsOf g (x : Int))[r]? = some q → keepA g a D f x s q = 0) (hp : keepA g a D f x s p ≠ 0) :
    lwL g a D (f + 1) x s = p.1 :: lwL g a D f p.2.2.toNat (keepA g a D f x s p) := by
  have hj := (List.getElem?_eq_some_iff.1 h).1
  have : (arcsOf g (x : Int)).find? (fun p => decide (keepA g a D f x s p ≠ 0)) = some p := by
    rw [List.find?_eq_some_iff_getElem]
    refine ⟨by simpa using hp, j, hj, (List.getElem?_eq_some_iff.1 h).2, fun r hr => ?_⟩
    have := hno r _ hr (List.getElem?_eq_getElem (by omega))
    simp [this]
  rw [lwL, this]
theorem lwL_miss {g : Gr} {a : Au} {D : List Int} {f x s : Nat} (hno : ∀ r q, r < (arcsOf g (x : Int)).length → (arcsOf g (x : Int))[r]? = some q → keepA g a D f x s q = 0) : lwL g a D (f + 1) x s = lwL g a D f x s := by
  have : (arcsOf g (x : Int)).find? (fun p => decide (keepA g a D f x s p ≠ 0)) = none := by
    rw [List.find?_eq_none]
    intro p hp
    obtain ⟨r, hr, he⟩ := List.getElem_of_mem hp
    have := hno r p hr (by rw [List.getElem?_eq_getElem hr, he])
    simp [this]
  rw [lwL, this]
set_option maxHeartbeats 8000000 in
set_option maxRecDepth 100000 in
theorem specLeastWitness (vg va : Value) (g : Gr) (a : Au) (x y : Int) (w : World) (hgv : GrV 0 w.heap.size w vg g) (hav : AuV 0 w.heap.size w va a) :
    Calls Try.prog 24 #[vg, va, .int .i64 x, .int .i64 y] w fun e w' => ∃ v', e = .returned (.tuple #[v', .bool (lstShort g a x y).2]) ∧ WkO w.heap.size w'.heap.size w' v' (lstShort g a x y).1 ∧ Below w.heap.size w w' := by
  have hgv0 := hgv
  have hav0 := hav
  obtain ⟨A1, n1, c1, A2, n2, c2, rfl⟩ := hgv.shape
  obtain ⟨A3, n3, c3, A4, n4, c4, rfl⟩ := hav.shape
  have hb0 : Below w.heap.size w (((w.alloc (.cells #[.slice A1 n1 c1, .slice A2 n2 c2] 39)).alloc (.cells #[.int .i64 a.start, .slice A3 n3 c3, .slice A4 n4 c4] 41)).alloc (.cells #[.int .i64 0, .slice none 0 0] 34)) := (((Below.refl _ _).alloc (Nat.le_refl _) _).alloc (by simp) _).alloc (by simp; omega) _
  have hbG := ((Blk.new w 39 #[.slice A1 n1 c1, .slice A2 n2 c2] w.heap.size rfl).alloc (.cells #[.int .i64 a.start, .slice A3 n3 c3, .slice A4 n4 c4] 41)).alloc (.cells #[.int .i64 0, .slice none 0 0] 34)
  have hbA := (Blk.new (w.alloc (.cells #[.slice A1 n1 c1, .slice A2 n2 c2] 39)) 41 #[.int .i64 a.start, .slice A3 n3 c3, .slice A4 n4 c4] (w.heap.size + 1) (by simp)).alloc (.cells #[.int .i64 0, .slice none 0 0] 34)
  have hbR := Blk.new ((w.alloc (.cells #[.slice A1 n1 c1, .slice A2 n2 c2] 39)).alloc (.cells #[.int .i64 a.start, .slice A3 n3 c3, .slice A4 n4 c4] 41)) 34 #[.int .i64 0, .slice none 0 0] (w.heap.size + 1 + 1) (by simp)
  have HBG := Lib.hid hbG
  have HBA := Lib.hid hbA
  have HBR := Lib.hid hbR
  have HGV := Lib.hid hgv0
  have HAV := Lib.hid hav0
  have HB0 := Lib.hid hb0
  have HSL := Lib.hid (fun (W : World) (hW : Below w.heap.size w W) => specShortestLength _ _ g a x y W (HGV.out.keep hW) (HAV.out.keep hW))
  clear hgv hav hgv0 hav0 hb0 hbG hbA hbR
  obtain ⟨R, hR⟩ : ∃ R, R = lstShort g a x y := ⟨_, rfl⟩
  rw [← hR]
  by_cases hneg : shortLen g a x y < 0
  · have HF := Lib.hid (show R = ((0, []), false) by rw [hR, lstShort, if_pos hneg])
    generalize shortLen g a x y = SL at *
    clear hR
    go_enter Try.func24, Try.ntmps24
    go_wp2_with fail
    refine (HSL.out _ HB0.out).mono ?_
    rintro e w1 ⟨rfl, hb1⟩
    have hb2 := below_trans HB0.out hb1
    have bR := HBR.out.keep hb1
    have r0 : w1.cell? ⟨w.heap.size + 1 + 1, 0, none⟩ = some (.int .i64 0) := bR.cell 0
    have r1 : w1.cell? ⟨w.heap.size + 1 + 1, 1, none⟩ = some (.slice none 0 0) := bR.cell 1
    have fr0 := bR.frozen 0
    have fr1 := bR.frozen 1
    have lr := bR.lt
    clear bR
    clear hb1
    go_wp2_with fail
    refine bodyPost_ret (v := .tuple #[.agg #[.int .i64 0, .slice none 0 0], .bool false]) (by simp [results, Try.results24, go_sem, r0, r1]) rfl ⟨_, by rw [HF.out], ?_, (hb2.setCell (p := ⟨w.heap.size + 1 + 1, 0, none⟩) (by simp only; omega) _).setCell (p := ⟨w.heap.size + 1 + 1, 1, none⟩) (by simp only; omega) _⟩
    rw [HF.out]
    exact ⟨_, rfl, Own.nil _ _ _ _ _ _⟩
  · have hco := shortLen_ok (show 0 ≤ shortLen g a x y by omega)
    obtain ⟨⟨hx0, hx1⟩, ⟨hy0, hy1⟩, hgo, ha⟩ := cntOk_iff.1 hco
    have hlt := shortLen_lt g a x y
    obtain ⟨L, hL⟩ := Int.eq_ofNat_of_zero_le (show 0 ≤ shortLen g a x y by omega)
    rw [hL] at HSL hlt
    obtain ⟨x, rfl⟩ := Int.eq_ofNat_of_zero_le hx0
    obtain ⟨y, rfl⟩ := Int.eq_ofNat_of_zero_le hy0
    have hxl : x < g.vals.length := by omega
    have hyl : y < g.vals.length := by omega
    have hst0 := (auOk_iff.1 ha).2.1
    have hn12 := (auOk_iff.1 ha).1.2
    have hn5 := (grOk_iff.1 hgo).n5
    have hdl := distTo_len (g := g) (a := a) (y := (y : Int)) (by simp only [Bool.and_eq_true]; exact ⟨by rw [wi_iff]; omega, hgo, ha⟩)
    have hBK := fun (W : World) (hW : Below w.heap.size w W) => l14Back_any _ _ g a y W (HGV.out.keep hW) (HAV.out.keep hW) hgo ha hyl
    obtain ⟨D, hD⟩ : ∃ D, D = distTo g a (y : Int) := ⟨_, rfl⟩
    obtain ⟨SS, hSS⟩ : ∃ SS, SS = lwL g a D L x (bit a.start.toNat) := ⟨_, rfl⟩
    have HF := Lib.hid (show R = (((x : Int), SS), true) by rw [hR, lstShort, if_neg hneg, hL, hSS, hD, Int.toNat_natCast, Int.toNat_natCast])
    rw [← hD] at hdl hBK
    have hd60 : D.length ≤ 60 := by rw [hdl]; exact Nat.mul_le_mul hn5 hn12
    have HDL := Lib.hid hdl
    have HBK := Lib.hid hBK
    have HGO := Lib.hid hgo
    have HA := Lib.hid ha
    have HSS := Lib.hid hSS
    have hn3 : n3 = a.accept.length := by
      obtain ⟨A3', c3', A4', c4', he, -⟩ := HAV.out.form ha
      injection he with he
      simp at he
      exact he.1.2.1
    have HS0 := Lib.hid (show bit a.start.toNat < 2 ^ a.accept.length from bit_lt (by omega))
    obtain ⟨s0, hs0⟩ := Int.eq_ofNat_of_zero_le hst0.1
    have hs12 : s0 < 12 := by omega
    have e1 := shl_bit (s := s0) (by omega)
    have e2 : wrap64 (2 ^ min s0 64) = (bit s0 : Int) := by rw [Nat.min_eq_left (by omega)]; exact e1
    have hst : a.start.toNat = s0 := by omega
    rw [hst] at HSS HS0
    have HE2 := Lib.hid e2
    have HE1 := Lib.hid e1
    have HS00 := Lib.hid hs0
    subst hn3
    clear hneg hco hgo ha hx0 hx1 hy0 hy1 hL hD hSS hR hdl hBK hst hst0 e1 e2 hs0
    have HBX := Lib.hid (show Blk _ (w.heap.size + 1) 41 #[.int .i64 a.start, .slice A3 a.accept.length c3, .slice A4 n4 c4] from HBA.out)
    have hln : ¬ (L : Int) < 0 := by omega
    go_enter Try.func24, Try.ntmps24
    go_wp2_with fail
    refine (HSL.out _ HB0.out).mono ?_
    rintro e w1 ⟨rfl, hb1⟩
    have hb2 := below_trans HB0.out hb1
    have x0 : w1.cell? ⟨w.heap.size, 0, none⟩ = some (.slice A1 n1 c1) := (HBG.out.keep hb1).cell 0
    have x1 : w1.cell? ⟨w.heap.size, 1, none⟩ = some (.slice A2 n2 c2) := (HBG.out.keep hb1).cell 1
    have y0 : w1.cell? ⟨w.heap.size + 1, 0, none⟩ = some (.int .i64 a.start) := (HBA.out.keep hb1).cell 0
    have y1 : w1.cell? ⟨w.heap.size + 1, 1, none⟩ = some (.slice A3 a.accept.length c3) := (HBA.out.keep hb1).cell 1
    have y2 : w1.cell? ⟨w.heap.size + 1, 2, none⟩ = some (.slice A4 n4 c4) := (HBA.out.keep hb1).cell 2
    have HBG1 := Lib.hid (HBG.out.keep hb1)
    have HBA1 := Lib.hid (HBA.out.keep hb1)
    have HBR1 := Lib.hid (HBR.out.keep hb1)
    clear hb1 HBX
    go_wp2_with fail
    refine (HBK.out _ hb2).mono ?_
    rintro e w2 ⟨vB, rfl, hoB, hb3⟩
    have hb4 := below_trans hb2 hb3
    have HOB := Lib.hid (hoB.sl cI_len)
    obtain ⟨A6, n6, c6, rfl⟩ := hoB.shape
    have HBG2 := Lib.hid (HBG1.out.keep hb3)
    have HBA2 := Lib.hid (HBA1.out.keep hb3)
    have HBR2 := Lib.hid (HBR1.out.keep hb3)
    have HB4 := Lib.hid hb4
    have y0 : w2.cell? ⟨w.heap.size + 1, 0, none⟩ = some (.int .i64 (s0 : Int)) := by rw [← HS00.out]; exact HBA2.out.cell 0
    have hbs := hb4.size
    clear hb2 hb3 hb4 hoB x0 x1 y1 y2
    have ly := HBA2.out.lt
    have lr := HBR2.out.lt
    have HBW2 := Lib.hid (Blk.new w2 34 #[.int .i64 (x : Int), .slice none 0 0] w2.heap.size rfl)
    have HBN2 := Lib.hid ((Below.refl w2.heap.size w2).alloc (Nat.le_refl _) (.cells #[.int .i64 (x : Int), .slice none 0 0] 34))
    have e1 := HE1.out
    go_wp2_with fail
    try rw [HE2.out]
    try rw [HE1.out]
    obtain ⟨bW, hbW⟩ : ∃ bW, bW = w2.heap.size := ⟨_, rfl⟩
    rw [← hbW] at HBW2 HBN2 ly lr hbs ⊢
    have HBWe := Lib.hid hbW
    clear hbW e1 y0
    go_loopw [10, 14, 15] (fun ll nn ss wr => ∃ (f x' s' : Nat) (O : List St) (oo : Value), ll = .int .i64 (f : Int) ∧ nn = .int .i64 (x' : Int) ∧ ss = .int .i64 (s' : Int) ∧ x' < g.vals.length ∧ s' < 2 ^ a.accept.length ∧ O ++ lwL g a D f x' s' = SS ∧ O.length + f ≤ L ∧
        Blk wr bW 34 #[.int .i64 (x : Int), oo] ∧ wr.ownsRow (bW + 1) 96 2 oo O.length (O.flatMap cSt) ∧ Below bW w2 wr) (fun ll _ _ _ => (intOf ll).toNat)
    case atStart => exact ⟨L, x, bit s0, [], _, rfl, rfl, rfl, hxl, HS0.out, HSS.out.symm, by simp, HBW2.out, World.ownsRow_nil _ _ _ _, HBN2.out⟩
    case round =>
      obtain ⟨f1, x', s', O, oo, rfl, rfl, rfl, hxl', hs', hO, hOl, hbw, hrow, hbel⟩ := hrel
      have hsz := hbel.size
      rw [← HBWe.out] at hsz
      have lw := hbw.lt
      have hbelW := HB4.out.trans (hbel.mono (show w.heap.size ≤ bW by omega))
      cases f1 with
      | zero =>
        have hOe : O = SS := by rw [← hO]; simp [lwL]
        have hown := Own.of_row (xs := O) hrow rfl rfl
        rw [hOe] at hown
        obtain ⟨A9, n9, c9, rfl⟩ := hown.shape
        have HOW := Lib.hid hown
        have hbr := HBR2.out.keep (HBWe.out ▸ hbel)
        have w0 : wr.cell? ⟨bW, 0, none⟩ = some (.int .i64 (x : Int)) := hbw.cell 0
        have w1 : wr.cell? ⟨bW, 1, none⟩ = some (.slice A9 n9 c9) := hbw.cell 1
        have q0 : ((wr.setCell ⟨w.heap.size + 1 + 1, 0, none⟩ (.int .i64 (x : Int))).setCell ⟨w.heap.size + 1 + 1, 1, none⟩ (.slice A9 n9 c9)).cell? ⟨w.heap.size + 1 + 1, 0, none⟩ = some (.int .i64 (x : Int)) := by simpa using ((hbr.set_ 0 (.int .i64 (x : Int))).set_ 1 (.slice A9 n9 c9)).cell 0
        have q1 : ((wr.setCell ⟨w.heap.size + 1 + 1, 0, none⟩ (.int .i64 (x : Int))).setCell ⟨w.heap.size + 1 + 1, 1, none⟩ (.slice A9 n9 c9)).cell? ⟨w.heap.size + 1 + 1, 1, none⟩ = some (.slice A9 n9 c9) := by simpa using ((hbr.set_ 0 (.int .i64 (x : Int))).set_ 1 (.slice A9 n9 c9)).cell 1
        have fr0 := hbr.frozen 0
        have fr1 := hbr.frozen 1
        have q2 : (wr.setCell ⟨w.heap.size + 1 + 1, 0, none⟩ (.int .i64 (x : Int))).cell? ⟨w.heap.size + 1 + 1, 0, none⟩ = some (.int .i64 (x : Int)) := by simpa using (hbr.set_ 0 (.int .i64 (x : Int))).cell 0
        have HQ := Lib.hid (And.intro q0 (And.intro q1 q2))
        clear q0 q1 q2
        have q0 : wr.cell? ⟨w.heap.size + 1 + 1, 0, none⟩ = some (.int .i64 0) := hbr.cell 0
        have q1 : wr.cell? ⟨w.heap.size + 1 + 1, 1, none⟩ = some (.slice none 0 0) := hbr.cell 1
        have lrr := hbr.lt
        have HBEL := Lib.hid hbelW
        have hbn : ∀ b, b ≠ w.heap.size + 1 + 1 → ((wr.setCell ⟨w.heap.size + 1 + 1, 0, none⟩ (.int .i64 (x : Int))).setCell ⟨w.heap.size + 1 + 1, 1, none⟩ (.slice A9 n9 c9)).heap[b]? = wr.heap[b]? := fun b hb => by rw [Below.heap_setCell _ _ _ _ hb, Below.heap_setCell _ _ _ _ hb]
        have HBN := Lib.hid hbn
        clear hO hOe hown hbr hbw hrow hbel hbelW hbn hs'
        go_wp2_with fail
        have HBS := Lib.hid ((HBEL.out.setCell (p := ⟨w.heap.size + 1 + 1, 0, none⟩) (by simp only; omega) (.int .i64 (x : Int))).setCell (p := ⟨w.heap.size + 1 + 1, 1, none⟩) (by simp only; omega) (.slice A9 n9 c9))
        obtain ⟨hq0, hq1, hq2⟩ := HQ.out
        have hwes : ((wr.setCell ⟨w.heap.size + 1 + 1, 0, none⟩ (.int .i64 (x : Int))).setCell ⟨w.heap.size + 1 + 1, 1, none⟩ (.slice A9 n9 c9)).heap.size = wr.heap.size := by simp [World.setCell]
        refine bodyPost_ret (v := .tuple #[.agg #[.int .i64 (x : Int), .slice A9 n9 c9], .bool true]) (by simp [results, Try.results24, go_sem, hq0, hq1, hq2]) rfl ⟨_, by rw [HF.out], ?_, HBS.out⟩
        rw [HF.out]
        exact ⟨_, rfl, (HOW.out.blocks (fun b hb => HBN.out b (by have := HOW.out.lt b hb; omega))).mono (by omega) (by omega)⟩
      | succ f =>
        have hbW2 := HBWe.out
        have hkeepW := (HBWe.out ▸ hbel : Below w2.heap.size w2 wr)
        have x0 : wr.cell? ⟨w.heap.size, 0, none⟩ = some (.slice A1 n1 c1) := (HBG2.out.keep hkeepW).cell 0
        have x1 : wr.cell? ⟨w.heap.size, 1, none⟩ = some (.slice A2 n2 c2) := (HBG2.out.keep hkeepW).cell 1
        have y0 : wr.cell? ⟨w.heap.size + 1, 0, none⟩ = some (.int .i64 a.start) := (HBA2.out.keep hkeepW).cell 0
        have y1 : wr.cell? ⟨w.heap.size + 1, 1, none⟩ = some (.slice A3 a.accept.length c3) := (HBA2.out.keep hkeepW).cell 1
        have y2 : wr.cell? ⟨w.heap.size + 1, 2, none⟩ = some (.slice A4 n4 c4) := (HBA2.out.keep hkeepW).cell 2
        have qf : ((f + 1 : Nat) : Int) - 1 = (f : Int) := by omega
        have qf2 : IntKind.i64.wrap (((f + 1 : Nat) : Int) - 1) = (f : Int) := by rw [qf]; exact IntWalk.i64_in _ (by omega)
        have qf3 : (0 : Int) < ((f + 1 : Nat) : Int) := by omega
        obtain ⟨F1, hF1⟩ : ∃ F1, F1 = f + 1 := ⟨_, rfl⟩
        rw [← hF1] at qf qf2 qf3 hO hOl ⊢
        have hF1a : f + 1 ≤ F1 := by omega
        have HF1 := Lib.hid hF1
        have HBW := Lib.hid hbw
        have HROW := Lib.hid hrow
        have HBEL := Lib.hid hbel
        have HBELW := Lib.hid hbelW
        have HO := Lib.hid hO
        have HS' := Lib.hid hs'
        clear hbw hrow hbel hbelW hO hkeepW hbW2 hF1 hs'
        go_wp2_with fail
        clear qf2
        refine (l4From_any _ g x' _ (HGV.out.keep HBELW.out) (grOk_iff.1 HGO.out).e12).mono ?_
        rintro e w5 ⟨v5, rfl, ho5, hb5⟩
        obtain ⟨A5, n5, c5, rfl⟩ := ho5.shape
        have hn5e : n5 = (arcsOf g (x' : Int)).length := by
          obtain ⟨_, _, he, -⟩ := ho5.sl cSt_len
          injection he with _ he _
          rw [he, List.length_map]
        rw [hn5e] at ho5 ⊢
        have HO5 := Lib.hid (ho5.sl cSt_len)
        have HRL := Lib.hid (fun b (hb : oo.ownBlock = some b) => HROW.out.lt b hb)
        have HBW5 := Lib.hid (HBW.out.keep hb5)
        have HROW5 := Lib.hid (ownsRow_block HROW.out (fun b hb => hb5.block b (HROW.out.lt b hb).2))
        have HBEL5 := Lib.hid (HBEL.out.trans (hb5.mono hsz))
        have hs5 := hb5.size
        clear ho5 hn5e hb5 x0 x1 y0 y1 y2 HBW HROW HBEL
        have HAL := Lib.hid (arcs_len (grOk_iff.1 HGO.out) (x' : Int))
        go_wp2_with fail
        go_loopw [14, 15, 17, 18] (fun nn ss bb ii wi => ∃ (j x1 s1 : Nat) (b : Bool) (O1 : List St) (o1 : Value), nn = .int .i64 (x1 : Int) ∧ ss = .int .i64 (s1 : Int) ∧ bb = .bool b ∧ ii = .int .i64 (j : Int) ∧ j ≤ (arcsOf g (x' : Int)).length ∧
            Blk wi bW 34 #[.int .i64 (x : Int), o1] ∧ wi.ownsRow (bW + 1) 96 2 o1 O1.length (O1.flatMap cSt) ∧ Below bW w2 wi ∧
            (b = false → x1 = x' ∧ s1 = s' ∧ O1 = O ∧ o1 = oo ∧ Below w5.heap.size w5 wi ∧ ∀ r q, r < j → (arcsOf g (x' : Int))[r]? = some q → keepA g a D f x' s' q = 0) ∧
            (b = true → x1 < g.vals.length ∧ s1 < 2 ^ a.accept.length ∧ O1 ++ lwL g a D f x1 s1 = SS ∧ O1.length + f ≤ L)) (fun _ _ _ ii _ => (arcsOf g (x' : Int)).length - (intOf ii).toNat)
        case atStart => exact ⟨0, x', s', false, O, oo, rfl, rfl, rfl, rfl, Nat.zero_le _, HBW5.out, HROW5.out, HBEL5.out, fun _ => ⟨rfl, rfl, rfl, rfl, Below.refl _ _, fun r q hr => by omega⟩, fun h => by cases h⟩
        case round =>
          clear HBW5 HROW5 HBEL5
          obtain ⟨j, x1, s1, b, O1, o1, rfl, rfl, rfl, rfl, hj, hbw, hrow, hbel, hno, hyes⟩ := hrel
          cases b with
          | true =>
            have hy := hyes rfl
            have HY := Lib.hid hy
            have HBW := Lib.hid hbw
            have HROW := Lib.hid hrow
            have HBEL := Lib.hid hbel
            clear hno hyes hy hbw hrow hbel
            by_cases hlj : j < (arcsOf g (x' : Int)).length
            · have hjj : (j : Int) < ((arcsOf g (x' : Int)).length : Int) := by omega
              go_wp2_with fail
              go_roundw
              case rel => exact ⟨f, x1, s1, O1, o1, rfl, rfl, rfl, HY.out.1, HY.out.2.1, HY.out.2.2.1, HY.out.2.2.2, HBW.out, HROW.out, HBEL.out⟩
              case measure => have := HF1.out; simp [intOf]; omega
            · have hjj : ¬ (j : Int) < ((arcsOf g (x' : Int)).length : Int) := by omega
              go_wp2_with fail
              go_roundw
              case rel => exact ⟨f, x1, s1, O1, o1, rfl, rfl, rfl, HY.out.1, HY.out.2.1, HY.out.2.2.1, HY.out.2.2.2, HBW.out, HROW.out, HBEL.out⟩
              case measure => have := HF1.out; simp [intOf]; omega
          | false =>
            obtain ⟨rfl, rfl, rfl, rfl, hb5w, hmiss⟩ := hno rfl
            clear hyes hno
            by_cases hlj : j < (arcsOf g (x1 : Int)).length
            · have hyi : (arcsOf g (x1 : Int))[j]? = some (arcsOf g (x1 : Int))[j] := List.getElem?_eq_getElem hlj
              have hym := List.getElem_mem hlj
              generalize (arcsOf g (x1 : Int))[j] = p at hyi hym
              have hyr := arc_range (grOk_iff.1 HGO.out) hym
              obtain ⟨e, he, hel, het⟩ := arc_stepEd HGO.out hym
              have HMISS := Lib.hid hmiss
              have HHIT := Lib.hid (fun h => lwL_hit (a := a) (D := D) (f := f) (s := s1) hyi hmiss h)
              have HNEXT := Lib.hid (fun (h : keepA g a D f x1 s1 p = 0) r q (hr : r < j + 1) (hq : (arcsOf g (x1 : Int))[r]? = some q) => show keepA g a D f x1 s1 q = 0 from by
                rcases Nat.lt_or_ge r j with h1 | h1
                · exact hmiss r q h1 hq
                · obtain rfl : r = j := by omega
                  rw [hyi] at hq
                  injection hq with hq
                  rw [← hq]; exact h)
              obtain ⟨⟨sid, sinv⟩, l, t⟩ := p
              simp only at hyr he hel het
              obtain ⟨l, rfl⟩ := Int.eq_ofNat_of_zero_le hyr.1.1
              obtain ⟨t, rfl⟩ := Int.eq_ofNat_of_zero_le hyr.2.1
              have htl : t < g.vals.length := by omega
              have HNX := Lib.hid (fun (W : World) (hW : Below w.heap.size w W) => by
                have h := l18Next_any _ _ g a x1 s1 (sid, sinv) e l W (HGV.out.keep hW) (HAV.out.keep hW) HGO.out HA.out hxl' HS'.out he hel
                rw [het] at h
                exact h)
              have hMl := aft_lt HA.out s1 (valAt g x1) l
              have hM4 := lt12 HA.out hMl
              have hKA : keepA g a D f x1 s1 ((sid, sinv), (l : Int), (t : Int)) = keepTo D a.accept.length t (aft a s1 (valAt g x1) l) f a.accept.length := by rw [keepA, keepK]; simp
              have hKlt : keepA g a D f x1 s1 ((sid, sinv), (l : Int), (t : Int)) < 2 ^ a.accept.length := by rw [hKA]; exact keepTo_lt ..
              have HKE := Lib.hid hKA
              have HKLT := Lib.hid hKlt
              have hK4 := lt12 HA.out hKlt
              obtain ⟨KP, hKP⟩ : ∃ KP, KP = keepA g a D f x1 s1 ((sid, sinv), (l : Int), (t : Int)) := ⟨_, rfl⟩
              rw [← hKP] at HKE HKLT hK4 HHIT HNEXT
              simp only [Int.toNat_natCast] at HHIT
              have hsl := HO5.out.below hb5w (Nat.le_refl _)
              obtain ⟨b8, o8, rfl, hb8, e0, e1⟩ := hsl.stI (i := j) (x := (sid, sinv)) (by rw [List.getElem?_map, hyi]; rfl)
              simp only at e0 e1
              have hkeepW := (HBWe.out ▸ hbel : Below w2.heap.size w2 wr)
              have u0 : wr.cell? ⟨w.heap.size, 0, none⟩ = some (.slice A1 n1 c1) := (HBG2.out.keep hkeepW).cell 0
              have u1 : wr.cell? ⟨w.heap.size, 1, none⟩ = some (.slice A2 n2 c2) := (HBG2.out.keep hkeepW).cell 1
              have v0 : wr.cell? ⟨w.heap.size + 1, 0, none⟩ = some (.int .i64 a.start) := (HBA2.out.keep hkeepW).cell 0
              have v1 : wr.cell? ⟨w.heap.size + 1, 1, none⟩ = some (.slice A3 a.accept.length c3) := (HBA2.out.keep hkeepW).cell 1
              have v2 : wr.cell? ⟨w.heap.size + 1, 2, none⟩ = some (.slice A4 n4 c4) := (HBA2.out.keep hkeepW).cell 2
              have HBW := Lib.hid hbw
              have HROW := Lib.hid hrow
              have HBEL := Lib.hid hbel
              have HB5W := Lib.hid hb5w
              have HBLW := Lib.hid (HB4.out.trans (hbel.mono (show w.heap.size ≤ bW by omega)))
              have HDW := Lib.hid ((HOB.out.below hkeepW (Nat.le_refl _)).all (HBWe.out ▸ hbel.size : w2.heap.size ≤ wr.heap.size))
              have hjj : (j : Int) < ((arcsOf g (x1 : Int)).length : Int) := by omega
              have hsw := hb5w.size
              have hb8w : b8 < wr.heap.size := World.block_lt_of_cell? _ _ e0
              have lw0 : w.heap.size < wr.heap.size := World.block_lt_of_cell? _ _ u0
              have lw1 : w.heap.size + 1 < wr.heap.size := World.block_lt_of_cell? _ _ v0
              have hlw := hbw.lt
              obtain ⟨wq, hwq⟩ : ∃ wq : World, wq = wr := ⟨_, rfl⟩
              rw [← hwq] at HBW HROW HBEL HB5W HBLW HDW u0 u1 v0 v1 v2 e0 e1 hsw hb8w lw0 lw1 hlw ⊢
              clear hwq hbw hrow hbel hb5w hsl hyi hym hmiss he hel het hKA hKlt hKP hkeepW hMl
              go_upto_region 16 with fail
              refine wp_region_ext_lit (by kernel_rfl) (by kernel_rfl) ?_
              repeat (go_big_quiet_step ((go_at_call 67; exact Calls.ext_of (HNX.out _ (below_trans HBLW.out (ext_below _ _))))))
              refine wpQuiet_nil ?_
              intro _ hw'
              obtain ⟨u2, hw''⟩ := hw'
              subst hw''
              have hbU := ext_below wq u2
              have HBU := Lib.hid hbU
              have hal := arcs_len (grOk_iff.1 HGO.out) (x1 : Int)
              have hj24 : j ≤ 24 := by omega
              have hmn : t * a.accept.length + a.accept.length ≤ D.length := by
                rw [HDL.out, ← Nat.succ_mul]
                exact Nat.mul_le_mul_right _ htl
              have HKC := Lib.hid (fun (W : World) (hW : SlE W cI 1 (.slice A6 n6 c6) D) => l18Keep_any _ D a.accept.length t (aft a s1 (valAt g x1) l) f W hW hmn hd60 hn12 hM4 (by omega))
              rw [← HKE.out] at HKC
              generalize aft a s1 (valAt g x1) l = MM at *
              clear hmn hbU
              go_wp2_with fail
              refine (HKC.out _ (HDW.out.keep HBU.out)).mono ?_
              rintro e w7 ⟨rfl, hb7⟩
              have hbx := below_trans HBU.out hb7
              by_cases hz : KP = 0
              · have HNZ := Lib.hid (HNEXT.out hz)
                subst hz
                have HBX := Lib.hid hbx
                clear hbx hb7
                go_wp2_with fail
                go_roundw
                case rel => exact ⟨j + 1, x1, s1, false, O1, o1, rfl, rfl, rfl, by go_num, by omega, HBW.out.keep HBX.out, ownsRow_block HROW.out (fun b hb => HBX.out.block b (HROW.out.lt b hb).2), HBEL.out.trans (HBX.out.mono (Nat.le_of_lt hlw)), fun _ => ⟨rfl, rfl, rfl, rfl, HB5W.out.trans (HBX.out.mono hsw), HNZ.out⟩, fun h => by cases h⟩
                case measure => simp [intOf]; omega
              · have hzb : (KP : Int) ≠ 0 := by omega
                have hzn : ((KP : Int) != 0) = true := by simpa using hz
                have HH := Lib.hid (HHIT.out hz)
                obtain ⟨A9, n9, c9, ho1⟩ := (Own.of_row (xs := O1) HROW.out rfl rfl).shape
                subst ho1
                have v1 : wq.cell? ⟨bW, 1, none⟩ = some (.slice A9 n9 c9) := HBW.out.cell 1
                have v1 := kcell hbx v1
                have s0 := kcell hbx e0
                have s1c := kcell hbx e1
                have HBWX := Lib.hid (HBW.out.keep hbx)
                have HROWX := Lib.hid (ownsRow_block HROW.out (fun b hb => hbx.block b (HROW.out.lt b hb).2))
                have HBELX := Lib.hid (HBEL.out.trans (hbx.mono (Nat.le_of_lt hlw)))
                have hsx := hbx.size
                have hO60 : O1.length ≤ 60 := by omega
                have hrl := HRL.out
                have lWx : bW < w7.heap.size := by omega
                have hHRL : ∀ b, (Value.slice A9 n9 c9).ownBlock = some b → bW + 1 ≤ b ∧ b < wq.heap.size := fun b hb => ⟨(hrl b hb).1, by have := (HROW.out.lt b hb).2; omega⟩
                have HR2 := Lib.hid hHRL
                clear hbx hb7 e0 e1 u0 u1 v0 v2 hHRL hrl
                go_upto_region 19 with fail
                refine F_start 9 (fun w' => w'.cell? ⟨bW, 1, none⟩ = some (.slice A9 n9 c9) ∧ w'.cell? ⟨b8, o8 + j * 2, none⟩ = some (.int .i64 sid) ∧ w'.cell? ⟨b8, o8 + j * 2 + 1, none⟩ = some (.bool sinv)) (by kernel_rfl) (by exact ⟨v1, s0, s1c⟩) (fun hS inv => ?_)
                refine F_take (i := 0) (v := ?_) rfl (by kernel_rfl) (by kernel_rfl) (by kernel_rfl) (fun _ _ _ h => h) inv (Or.inl ⟨by rfl, ?_⟩) (by assumption) (fun invn => ?_)
                rotate_left
                · (intro w hSw; (try dsimp only at hSw); go_simp; try with_reducible rfl)
                try simp only [List.getElem_toArray, List.getElem_cons_zero, List.getElem_cons_succ, Act.put, List.setIfInBounds_toArray, List.set_cons_zero, List.set_cons_succ]
                clear inv
                have inv := invn
                clear invn
                refine F_take (i := 1) (v := ?_) rfl (by kernel_rfl) (by kernel_rfl) (by kernel_rfl) (fun _ _ _ h => h) inv (Or.inl ⟨by rfl, ?_⟩) (by assumption) (fun invn => ?_)
                rotate_left
                · (intro w hSw; (try dsimp only at hSw); go_simp; try with_reducible rfl)
                try simp only [List.getElem_toArray, List.getElem_cons_zero, List.getElem_cons_succ, Act.put, List.setIfInBounds_toArray, List.set_cons_zero, List.set_cons_succ]
                clear inv
                have inv := invn
                clear invn
                refine F_take (i := 2) (v := ?_) rfl (by kernel_rfl) (by kernel_rfl) (by kernel_rfl) (fun _ _ _ h => h) inv (Or.inl ⟨by rfl, ?_⟩) (by assumption) (fun invn => ?_)
                rotate_left
                · (intro w hSw; (try dsimp only at hSw); go_simp; try with_reducible rfl)
                try simp only [List.getElem_toArray, List.getElem_cons_zero, List.getElem_cons_succ, Act.put, List.setIfInBounds_toArray, List.set_cons_zero, List.set_cons_succ]
                clear inv
                have inv := invn
                clear invn
                refine F_take (i := 3) (v := ?_) rfl (by kernel_rfl) (by kernel_rfl) (by kernel_rfl) (fun _ _ _ h => h) inv (Or.inl ⟨by rfl, ?_⟩) (by assumption) (fun invn => ?_)
                rotate_left
                · (intro w hSw; (try dsimp only at hSw); go_simp; try with_reducible rfl)
                try simp only [List.getElem_toArray, List.getElem_cons_zero, List.getElem_cons_succ, Act.put, List.setIfInBounds_toArray, List.set_cons_zero, List.set_cons_succ]
                clear inv
                have inv := invn
                clear invn
                refine F_take (i := 4) (v := ?_) rfl (by kernel_rfl) (by kernel_rfl) (by kernel_rfl) (fun _ _ _ h => h) inv (Or.inl ⟨by rfl, ?_⟩) (by assumption) (fun invn => ?_)
                rotate_left
                · (intro w hSw; (try dsimp only at hSw); go_simp; try with_reducible rfl)
                try simp only [List.getElem_toArray, List.getElem_cons_zero, List.getElem_cons_succ, Act.put, List.setIfInBounds_toArray, List.set_cons_zero, List.set_cons_succ]
                clear inv
                have inv := invn
                clear invn
                refine F_take (i := 5) (v := ?_) rfl (by kernel_rfl) (by kernel_rfl) (by kernel_rfl) (fun _ _ _ h => h) inv (Or.inl ⟨by rfl, ?_⟩) (by assumption) (fun invn => ?_)
                rotate_left
                · (intro w hSw; (try dsimp only at hSw); go_simp; try with_reducible rfl)
                try simp only [List.getElem_toArray, List.getElem_cons_zero, List.getElem_cons_succ, Act.put, List.setIfInBounds_toArray, List.set_cons_zero, List.set_cons_succ]
                clear inv
                have inv := invn
                clear invn
                refine F_one (i := 6) (by kernel_rfl) rfl rfl (by omega) inv (fun K hK => ?_)
                try simp only [List.getElem_toArray, List.getElem_cons_zero, List.getElem_cons_succ]
                go_simp
                refine hK.out _ _ (kA3 _ hS) (fun hSn invn => ?_)
                try simp only [List.getElem_toArray, List.getElem_cons_zero, List.getElem_cons_succ, Act.put, List.setIfInBounds_toArray, List.set_cons_zero, List.set_cons_succ]
                clear hK K inv hS
                have inv := invn
                have hS := hSn
                clear invn hSn
                refine F_one (i := 7) (by kernel_rfl) rfl rfl (by omega) inv (fun K hK => ?_)
                try simp only [List.getElem_toArray, List.getElem_cons_zero, List.getElem_cons_succ]
                refine op_append1 cSt elStW rfl _ _ (by rfl) (bW + 1) (.slice A9 n9 c9) O1 (sid, sinv) 1 _ (by rfl) (show ((w7.alloc (.cells #[.int .i64 sid, .bool sinv] 96)).drew).ownsRow (bW + 1) 96 2 (.slice A9 n9 c9) O1.length (O1.flatMap cSt) from HROWX.out.alloc _) (by first | rfl | simp) (heap_alloc_new _ _) rfl (cSt_one _) (by omega) (by omega) (by simp; omega) ?_
                intro g2 cp2 w3 hown3 hgr3 hat3 hlt3
                have hrl := HR2.out
                have g3 : ∀ b, b < w7.heap.size → (Value.slice A9 n9 c9).ownBlock ≠ some b → w3.heap[b]? = w7.heap[b]? := fun b hb hn => (hgr3.block b (by simp; omega) (fun e => hn e.symm)).trans (Below.heap_alloc w7 _ b hb)
                have hs3 : w7.heap.size < w3.heap.size := by have := hgr3.size; simp at this; omega
                have nw : (Value.slice A9 n9 c9).ownBlock ≠ some bW := fun e => by have := hrl _ e; omega
                have n8 : (Value.slice A9 n9 c9).ownBlock ≠ some b8 := fun e => by have := HRL.out _ e; omega
                have hbw3 : Blk w3 bW 34 #[.int .i64 (x : Int), .slice A9 n9 c9] := (g3 bW (by omega) nw).trans HBWX.out
                have v1' : w3.cell? ⟨bW, 1, none⟩ = some (.slice A9 n9 c9) := hbw3.cell 1
                have f1' := hbw3.frozen 1
                have l1' := hbw3.lt
                refine hK.out _ _ (⟨hgr3.cell hS.1 (fun e => by have := hrl _ e.symm; simp only at this; omega), hgr3.cell hS.2.1 (fun e => by have := HRL.out _ e.symm; simp only at this; omega), hgr3.cell hS.2.2 (fun e => by have := HRL.out _ e.symm; simp only at this; omega)⟩) (fun hSn invn => ?_)
                try simp only [List.getElem_toArray, List.getElem_cons_zero, List.getElem_cons_succ, Act.put, List.setIfInBounds_toArray, List.set_cons_zero, List.set_cons_succ]
                clear hK K inv hS
                have inv := invn
                have hS := hSn
                clear invn hSn
                refine F_take (i := 8) (v := ?_) rfl (by kernel_rfl) (by kernel_rfl) (by kernel_rfl) (fun _ _ _ h => h) inv (Or.inl ⟨by rfl, ?_⟩) (by assumption) (fun invn => ?_)
                rotate_left
                · (intro w hSw; (try dsimp only at hSw); go_simp; try with_reducible rfl)
                try simp only [List.getElem_toArray, List.getElem_cons_zero, List.getElem_cons_succ, Act.put, List.setIfInBounds_toArray, List.set_cons_zero, List.set_cons_succ]
                clear inv
                have inv := invn
                clear invn
                refine F_last (i := 9) (by kernel_rfl) rfl rfl (by omega) (by kernel_rfl) (fun K hK => ?_)
                go_simp
                refine hK _ _ ?_
                clear hK K inv hS
                obtain ⟨w4, hw4⟩ : ∃ w4, w4 = w3.setCell ⟨bW, 1, none⟩ (.slice (some ⟨g2, 0, none⟩) (O1.length + 1) cp2) := ⟨_, rfl⟩
                have hs4w : w3.heap.size = w4.heap.size := by rw [hw4]; simp [World.setCell]
                have g4 : ∀ b, b < w3.heap.size → b ≠ bW → w4.heap[b]? = w3.heap[b]? := fun b hb hne => by rw [hw4]; exact Below.heap_setCell w3 ⟨bW, 1, none⟩ _ b hne
                have hbw4 : Blk w4 bW 34 #[.int .i64 (x : Int), .slice (some ⟨g2, 0, none⟩) (O1.length + 1) cp2] := by
                  have h := hbw3.set_ 1 (.slice (some ⟨g2, 0, none⟩) (O1.length + 1) cp2)
                  rw [← hw4] at h
                  simpa using h
                have hg2 : g2 ≠ bW := by
                  rcases hat3 with h | h
                  · have := hrl g2 h; omega
                  · simp at h; omega
                have hrow4 := ownsRow_block (w' := w4) hown3 (fun b hb => by
                  have he : g2 = b := by simpa [Value.ownBlock] using hb
                  exact g4 b (by omega) (by rw [← he]; exact hg2))
                have hbl4 : Below bW w2 w4 := by
                  rw [hw4]
                  have h1 : Below bW w2 ((w7.alloc (.cells #[.int .i64 sid, .bool sinv] 96)).drew) := (HBELX.out.alloc (by omega) _).drew
                  exact (h1.grown hgr3 (by simp; omega) (fun b hb => by have := hrl b hb; omega)).setCell (by simp only; omega) _
                have HBW4 := Lib.hid hbw4
                have HROW4 := Lib.hid hrow4
                have HBL4 := Lib.hid hbl4
                rw [← hw4]
                clear hw4 hbw4 hrow4 hbl4 g4 g3 hbw3 v1' f1' l1' hown3 hgr3 hat3 hlt3 hrl nw n8 v1 s0 s1c
                go_wp2_with fail
                go_roundw
                case rel =>
                  refine ⟨j + 1, t, KP, true, O1 ++ [(sid, sinv)], _, rfl, rfl, rfl, by go_num, by omega, HBW4.out, HROW4.out, HBL4.out, (fun h => by cases h), fun _ => ⟨htl, HKLT.out, ?_, by simp; omega⟩⟩
                  have h := HO.out
                  rw [HF1.out, HH.out] at h
                  rw [List.append_assoc]; exact h
                case measure => simp [intOf]; omega
            · obtain rfl : j = (arcsOf g (x1 : Int)).length := by omega
              have HM := Lib.hid (lwL_miss hmiss)
              have HBW := Lib.hid hbw
              have HROW := Lib.hid hrow
              have HBEL := Lib.hid hbel
              have hjj : ¬ ((arcsOf g (x1 : Int)).length : Int) < ((arcsOf g (x1 : Int)).length : Int) := by omega
              clear hbw hrow hbel hb5w hmiss
              go_wp2_with fail
              go_roundw
              case rel => exact ⟨f, x1, s1, O1, o1, rfl, rfl, rfl, hxl', HS'.out, by rw [← HM.out, ← HF1.out]; exact HO.out, by omega, HBW.out, HROW.out, HBEL.out⟩
              case measure => have := HF1.out; simp [intOf]; omega
end Go.Proofs.Ytlhpcknpjdeebaa

