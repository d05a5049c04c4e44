/- Parts of the proof, joined into one text: LstM, RnkM, CmpM, WitQ, WitR, DsbM, WitA, KeyP, MemD, Ctr, Count, CtrN, NthI. -/
import Derived.Test.YtcnenpjaoalmeaaGreatOnlyJEDBHOLH
import Derived.Test.YtcnenpjaoalmeaaGreatOnlyDFDFFGEL
import Derived.Test.YtcnenpjaoalmeaaGreatOnlyAODCNMLC
import Derived.Test.YtcnenpjaoalmeaaGreatOnlyNBNNNJPC
import Derived.Test.YtcnenpjaoalmeaaGreatOnlyABFGDELO
import Derived.Maps.OwnSet
import Derived.DeepKeys4
import Derived.Maps.Views
import Derived.Test.YtcnenpjaoalmeaaGreatOnlyMKCIFHFK
import Derived.Test.YtcnenpjaoalmeaaGreatOnlyGAHOCEGD
import Derived.Deep.LoopGhost
namespace Go.Proofs.YtcnenpjaoalmeaaGreat
set_option linter.unusedVariables false
set_option linter.unusedSimpArgs false
open Go.ChangeShapes Go.WideShapes Go.ChangeAt Go.RowKit
theorem aft1_test (a : Au) (l m t u : Nat) : (aft1 a l m t).testBit u = (m.testBit u || decide (mv a t l = (u : Int))) := by
 unfold aft1
 split
 · rename_i h
   rw [ins_test]
   congr 1
   apply decide_eq_decide.2
   omega
 · rename_i h
   have : ¬ mv a t l = (u : Int) := by omega
   simp [this]
theorem aftF1_test (a : Au) (l u : Nat) : ∀ (L : List Nat) (m : Nat), (L.foldl (aft1 a l) m).testBit u = (m.testBit u || L.any fun t => decide (mv a t l = (u : Int)))
 | [], m => by simp
 | t :: L, m => by rw [List.foldl_cons, aftF1_test a l u L, aft1_test, List.any_cons, Bool.or_assoc]
theorem aftFS_test (a : Au) (v l u : Nat) : ∀ (L : List Nat) (m : Nat), (L.foldl (aftS a v l) m).testBit u = (m.testBit u || L.any fun s => (mem 12 (cls a v s)).any fun t => decide (mv a t l = (u : Int)))
 | [], m => by simp
 | s :: L, m => by rw [List.foldl_cons, aftFS_test a v l u L, aftS, aftF1_test, List.any_cons, Bool.or_assoc]
theorem aft_test (a : Au) (S v l u : Nat) : (aft a S v l).testBit u = (mem 12 S).any fun s => (mem 12 (cls a v s)).any fun t => decide (mv a t l = (u : Int)) := by rw [aft, aftFS_test, Nat.zero_testBit, Bool.false_or]
theorem test_lt {n S s : Nat} (hS : S < 2 ^ n) (h : S.testBit s = true) : s < n := by
 rcases Nat.lt_or_ge s n with h1 | h1
 · exact h1
 · rw [Nat.testBit_lt_two_pow (Nat.lt_of_lt_of_le hS (Nat.pow_le_pow_right (by omega) h1))] at h; cases h
theorem aft_any {a : Au} (ha : auOk a = true) {S : Nat} (hS : S < 2 ^ a.accept.length) (v l u : Nat) : (aft a S v l).testBit u = true ↔ ∃ s, S.testBit s = true /\ (aft a (bit s) v l).testBit u = true := by
 have hn := (auOk_iff.1 ha).1.2
 rw [aft_test, List.any_eq_true]
 constructor
 · rintro ⟨s, hs, h⟩
   rw [mem_mem] at hs
   exact ⟨s, hs.2, by rw [aft_test, mem_pow hs.1, List.any_cons, h]; rfl⟩
 · rintro ⟨s, hs, h⟩
   have hs12 : s < 12 := by have := test_lt hS hs; omega
   rw [aft_test, mem_pow hs12] at h
   exact ⟨s, mem_mem.2 ⟨hs12, hs⟩, by simpa using h⟩
/-- vertex (x, q) reaches an accepting end at y in exactly f steps -/
def hitK (g : Gr) (a : Au) (y f x q : Nat) : Prop := toG (nextI g a) (fun i => i ∈ goalsL g a y) f (x * a.accept.length + q)
theorem div_vx {n x q : Nat} (hq : q < n) : (x * n + q) / n = x := by
 rw [Nat.mul_comm, Nat.mul_add_div (by omega), Nat.div_eq_of_lt hq]; rfl
theorem mod_vx {n x q : Nat} (hq : q < n) : (x * n + q) % n = q := by rw [Nat.mul_comm, Nat.mul_add_mod, Nat.mod_eq_of_lt hq]
theorem mem_nextI {g : Gr} {a : Au} (ha : auOk a = true) {x q v : Nat} (hq : q < a.accept.length) : v ∈ nextI g a (x * a.accept.length + q) ↔ ∃ p ∈ arcsOf g (x : Int), ∃ t, (aft a (bit q) (valAt g x) p.2.1.toNat).testBit t = true /\ v = p.2.2.toNat * a.accept.length + t := by
 have hn := (auOk_iff.1 ha).1.2
 rw [nextI, div_vx hq, mod_vx hq, nextV, List.mem_flatMap]
 constructor
 · rintro ⟨p, hp, h⟩
   obtain ⟨t, ht, rfl⟩ := List.mem_map.1 h
   exact ⟨p, hp, t, (mem_mem.1 ht).2, rfl⟩
 · rintro ⟨p, hp, t, ht, rfl⟩
   have := test_lt (aft_lt ha (bit q) (valAt g x) p.2.1.toNat) ht
   exact ⟨p, hp, List.mem_map.2 ⟨t, mem_mem.2 ⟨by omega, ht⟩, rfl⟩⟩
theorem hit_zero {g : Gr} {a : Au} {y x q : Nat} (hq : q < a.accept.length) : hitK g a y 0 x q ↔ x = y /\ accC a (valAt g y) q = true := by
 show x * a.accept.length + q ∈ goalsL g a y ↔ _
 rw [mem_goalsL]
 constructor
 · rintro ⟨s, hs, hc, he⟩
   have h1 := congrArg (· / a.accept.length) he
   have h2 := congrArg (· % a.accept.length) he
   simp only [div_vx hq, div_vx hs, mod_vx hq, mod_vx hs] at h1 h2
   subst h1 h2
   exact ⟨rfl, hc⟩
 · rintro ⟨rfl, h⟩
   exact ⟨q, hq, h, rfl⟩
theorem hit_succ {g : Gr} {a : Au} (ha : auOk a = true) {y f x q : Nat} (hq : q < a.accept.length) : hitK g a y (f + 1) x q ↔ ∃ p ∈ arcsOf g (x : Int), ∃ t, (aft a (bit q) (valAt g x) p.2.1.toNat).testBit t = true /\ hitK g a y f p.2.2.toNat t := by
 show (∃ k ∈ nextI g a (x * a.accept.length + q), toG (nextI g a) (fun i => i ∈ goalsL g a y) f k) ↔ _
 constructor
 · rintro ⟨k, hk, h⟩
   obtain ⟨p, hp, t, ht, rfl⟩ := (mem_nextI ha hq).1 hk
   exact ⟨p, hp, t, ht, h⟩
 · rintro ⟨p, hp, t, ht, h⟩
   exact ⟨_, (mem_nextI ha hq).2 ⟨p, hp, t, ht, rfl⟩, h⟩
theorem fold_pos {g : Gr} {a : Au} {y : Int} {f x s : Nat} : ∀ (l : List Arc) (m : Nat), 0 < l.foldl (cwStep g a (cw g a y f) x s) m ↔ 0 < m ∨ ∃ p ∈ l, 0 < cwAt g a y f x s p
 | [], m => by simp
 | p :: l, m => by
   rw [List.foldl_cons, fold_pos l]
   have hs : cwStep g a (cw g a y f) x s m p = min 1000000 (m + cwAt g a y f x s p) := rfl
   rw [hs]
   constructor
   · rintro (h | ⟨q, hq, h⟩)
     · rcases Nat.eq_zero_or_pos m with h0 | h0
       · exact .inr ⟨p, List.mem_cons_self .., by omega⟩
       · exact .inl h0
     · exact .inr ⟨q, List.mem_cons_of_mem _ hq, h⟩
   · rintro (h | ⟨q, hq, h⟩)
     · exact .inl (by omega)
     · rcases List.mem_cons.1 hq with rfl | hq
       · exact .inl (by omega)
       · exact .inr ⟨q, hq, h⟩
theorem cw_pos {g : Gr} {a : Au} (ha : auOk a = true) {y : Nat} : ∀ {f x s : Nat}, s < 2 ^ a.accept.length -> (0 < cw g a (y : Int) f x s ↔ ∃ q, s.testBit q = true /\ hitK g a y f x q)
 | 0, x, s, hs => by
   have hn := (auOk_iff.1 ha).1.2
   rw [cw]
   have e : (decide ((x : Int) = (y : Int)) && acc a s (valAt g x)) = true ↔ ∃ q, s.testBit q = true /\ hitK g a y 0 x q := by
    rw [Bool.and_eq_true, decide_eq_true_eq, acc, List.any_eq_true]
    constructor
    · rintro ⟨hxy, q, hq, h⟩
      obtain rfl : x = y := by omega
      have h2 := (mem_mem.1 hq).2
      exact ⟨q, h2, (hit_zero (test_lt hs h2)).2 ⟨rfl, h⟩⟩
    · rintro ⟨q, hq, h⟩
      have hql := test_lt hs hq
      obtain ⟨rfl, h2⟩ := (hit_zero hql).1 h
      exact ⟨rfl, q, mem_mem.2 ⟨by omega, hq⟩, h2⟩
   rw [<- e]
   split <;> simp_all
 | f + 1, x, s, hs => by
   rw [cw, fold_pos]
   constructor
   · rintro (h | ⟨p, hp, h⟩)
     · omega
     · rw [cwAt, cw_pos ha (aft_lt ha _ _ _)] at h
       obtain ⟨t, ht, h⟩ := h
       obtain ⟨q, hq, ht⟩ := (aft_any ha hs _ _ _).1 ht
       exact ⟨q, hq, (hit_succ ha (test_lt hs hq)).2 ⟨p, hp, t, ht, h⟩⟩
   · rintro ⟨q, hq, h⟩
     obtain ⟨p, hp, t, ht, h⟩ := (hit_succ ha (test_lt hs hq)).1 h
     refine .inr ⟨p, hp, ?_⟩
     rw [cwAt, cw_pos ha (aft_lt ha _ _ _)]
     exact ⟨t, (aft_any ha hs _ _ _).2 ⟨q, hq, ht⟩, h⟩
def keepTo (D : List Int) (n x set f : Nat) : Nat -> Nat
 | 0 => 0
 | q + 1 => if (set.testBit q && (D.getD (x * n + q) 0 == (f : Int))) = true then ins (keepTo D n x set f q) q else keepTo D n x set f q
theorem keepTo_test (D : List Int) (n x set f u : Nat) : ∀ k, (keepTo D n x set f k).testBit u = true ↔ u < k /\ set.testBit u = true /\ D.getD (x * n + u) 0 = (f : Int)
 | 0 => by simp [keepTo]
 | k + 1 => by
   rw [keepTo]
   split
   · rename_i h
     rw [Bool.and_eq_true, beq_iff_eq] at h
     rw [ins_test, Bool.or_eq_true, keepTo_test D n x set f u k, decide_eq_true_eq]
     constructor
     · rintro (⟨h1, h2⟩ | rfl)
       · exact ⟨by omega, h2⟩
       · exact ⟨by omega, h⟩
     · rintro ⟨h1, h2⟩
       by_cases hk : k = u
       · exact .inr hk
       · exact .inl ⟨by omega, h2⟩
   · rename_i h
     rw [Bool.and_eq_true, beq_iff_eq] at h
     rw [keepTo_test D n x set f u k]
     constructor
     · rintro ⟨h1, h2⟩; exact ⟨by omega, h2⟩
     · rintro ⟨h1, h2⟩
       refine ⟨?_, h2⟩
       by_cases hk : u = k
       · subst hk; exact absurd h2 h
       · omega
theorem keepTo_lt (D : List Int) (n x set f : Nat) : ∀ k, keepTo D n x set f k < 2 ^ k
 | 0 => by simp [keepTo]
 | k + 1 => by
   have h := keepTo_lt D n x set f k
   have h2 : keepTo D n x set f k < 2 ^ (k + 1) := Nat.lt_of_lt_of_le h (Nat.pow_le_pow_right (by omega) (by omega))
   rw [keepTo]
   split
   · exact ins_lt h2 (by omega)
   · exact h2
def keepK (a : Au) (D : List Int) (x set f : Nat) : Nat := keepTo D a.accept.length x set f a.accept.length
def keepA (g : Gr) (a : Au) (D : List Int) (f x s : Nat) (p : Arc) : Nat := keepK a D p.2.2.toNat (aft a s (valAt g x) p.2.1.toNat) f
/-- the walk's steps, with f steps left -/
def lwL (g : Gr) (a : Au) (D : List Int) : Nat -> Nat -> Nat -> List St
 | 0, _, _ => []
 | f + 1, x, s => match (arcsOf g (x : Int)).find? (fun p => decide (keepA g a D f x s p ≠ 0)) with
   | none => lwL g a D f x s
   | some p => p.1 :: lwL g a D f p.2.2.toNat (keepA g a D f x s p)
theorem find_congr {α : Type} {p q : α -> Bool} : ∀ {l : List α}, (∀ x ∈ l, p x = q x) -> l.find? p = l.find? q
 | [], _ => rfl
 | x :: l, h => by
   rw [List.find?_cons, List.find?_cons, h x (List.mem_cons_self ..), find_congr (fun y hy => h y (List.mem_cons_of_mem _ hy))]
theorem pick_zero {α : Type} (k : α -> Nat) : ∀ l : List α, pick k l 0 = (l.find? fun p => decide (0 < k p)).map fun p => (p, 0)
 | [] => rfl
 | p :: l => by
   rw [pick, List.find?_cons]
   by_cases h : 0 < k p
   · simp [h]
   · have h2 : k p = 0 := by omega
     simp [h2, pick_zero k l]
/-- S: the states of the walk so far; K: those of them at distance f; none is nearer -/
structure KeepI (g : Gr) (a : Au) (y f x S K : Nat) : Prop where
 far : ∀ q, S.testBit q = true -> ∀ m, m < f -> ¬ hitK g a y m x q
 kept : ∀ q, K.testBit q = true ↔ S.testBit q = true /\ hitK g a y f x q
theorem ne_zero_iff {m : Nat} : m ≠ 0 ↔ ∃ q, m.testBit q = true := by
 constructor
 · exact Nat.exists_testBit_of_ne_zero
 · rintro ⟨q, hq⟩ rfl
   simp at hq
theorem dist_eq {g : Gr} {a : Au} {y : Nat} (hg : grOk g = true) (ha : auOk a = true) (hy : y < g.vals.length) {x q : Nat} (hx : x < g.vals.length) (hq : q < a.accept.length) (f : Nat) :
 (distTo g a (y : Int)).getD (x * a.accept.length + q) 0 = (f : Int) ↔ hitK g a y f x q /\ ∀ m, m < f -> ¬ hitK g a y m x q := by
 have hd : (wi (y : Int) 0 ((g.vals.length : Int) - 1) && (grOk g && auOk a)) = true := by
  simp only [Bool.and_eq_true]
  exact ⟨by rw [wi_iff]; omega, hg, ha⟩
 have hN : ∀ i k, i < g.vals.length * a.accept.length -> k ∈ nextI g a i -> k < g.vals.length * a.accept.length := fun i k _ hk => nextV_lt (grOk_iff.1 hg) ha hk
 have hfs : ∀ i ∈ goalsL g a y, i < g.vals.length * a.accept.length := fun i hi => by
  obtain ⟨s, hs, _, rfl⟩ := mem_goalsL.1 hi
  calc y * a.accept.length + s < y * a.accept.length + a.accept.length := by omega
   _ = (y + 1) * a.accept.length := by rw [Nat.add_mul, Nat.one_mul]
   _ <= _ := Nat.mul_le_mul_right _ hy
 have hi : x * a.accept.length + q < g.vals.length * a.accept.length := by
  calc x * a.accept.length + q < x * a.accept.length + a.accept.length := by omega
   _ = (x + 1) * a.accept.length := by rw [Nat.add_mul, Nat.one_mul]
   _ <= _ := Nat.mul_le_mul_right _ hx
 have h := spread_dist hfs hN _ hi
 have he : (distTo g a (y : Int)).getD (x * a.accept.length + q) 0 = (spreadR (g.vals.length * a.accept.length) (turnL (g.vals.length * a.accept.length) (nextI g a)) (goalsL g a y)).getD (x * a.accept.length + q) 0 := by rw [distTo, if_pos hd, Int.toNat_natCast]
 rw [<- he] at h
 constructor
 · intro hf
   rcases h with ⟨h1, -⟩ | ⟨h1, h2, h3⟩
   · omega
   · rw [hf, Int.toNat_natCast] at h2 h3
     exact ⟨h2, h3⟩
 · rintro ⟨h1, h2⟩
   exact h.uniq (.inr ⟨by omega, by rw [Int.toNat_natCast]; exact h1, by rw [Int.toNat_natCast]; exact h2⟩)
theorem KeepI.step {g : Gr} {a : Au} {y : Nat} (hg : grOk g = true) (ha : auOk a = true) (hy : y < g.vals.length) {f x S K : Nat} (hS : S < 2 ^ a.accept.length) (hK : K < 2 ^ a.accept.length) (h : KeepI g a y (f + 1) x S K) {p : Arc} (hp : p ∈ arcsOf g (x : Int)) :
 KeepI g a y f p.2.2.toNat (aft a S (valAt g x) p.2.1.toNat) (keepA g a (distTo g a (y : Int)) f x K p) := by
 have hr := arc_range (grOk_iff.1 hg) hp
 have hx : p.2.2.toNat < g.vals.length := by omega
 have far : ∀ q, (aft a S (valAt g x) p.2.1.toNat).testBit q = true -> ∀ m, m < f -> ¬ hitK g a y m p.2.2.toNat q := fun q hq m hm hh => by
  obtain ⟨s, hs, hq⟩ := (aft_any ha hS _ _ _).1 hq
  exact h.far s hs (m + 1) (by omega) ((hit_succ ha (test_lt hS hs)).2 ⟨p, hp, q, hq, hh⟩)
 refine ⟨far, fun q => ?_⟩
 rw [keepA, keepK, keepTo_test]
 constructor
 · rintro ⟨h1, h2, h3⟩
   obtain ⟨s, hs, hq⟩ := (aft_any ha hK _ _ _).1 h2
   exact ⟨(aft_any ha hS _ _ _).2 ⟨s, ((h.kept s).1 hs).1, hq⟩, ((dist_eq hg ha hy hx h1 f).1 h3).1⟩
 · rintro ⟨h1, h2⟩
   have hql := test_lt (aft_lt ha S (valAt g x) p.2.1.toNat) h1
   obtain ⟨s, hs, hq⟩ := (aft_any ha hS _ _ _).1 h1
   refine ⟨hql, (aft_any ha hK _ _ _).2 ⟨s, (h.kept s).2 ⟨hs, (hit_succ ha (test_lt hS hs)).2 ⟨p, hp, q, hq, h2⟩⟩, hq⟩, (dist_eq hg ha hy hx hql f).2 ⟨h2, far q h1⟩⟩
theorem lw_nth {g : Gr} {a : Au} {y : Nat} (hg : grOk g = true) (ha : auOk a = true) (hy : y < g.vals.length) : ∀ {f x S K : Nat}, S < 2 ^ a.accept.length -> K < 2 ^ a.accept.length -> KeepI g a y f x S K -> 0 < cw g a (y : Int) f x S ->
 lwL g a (distTo g a (y : Int)) f x K = nthL g a (y : Int) f x S 0
 | 0, x, S, K, _, _, _, _ => rfl
 | f + 1, x, S, K, hS, hK, h, hc => by
   have hst := fun p hp => h.step hg ha hy hS hK (p := p) hp
   have hfe : (arcsOf g (x : Int)).find? (fun p => decide (keepA g a (distTo g a (y : Int)) f x K p ≠ 0)) = (arcsOf g (x : Int)).find? (fun p => decide (0 < cwAt g a (y : Int) f x S p)) := by
    refine find_congr fun p hp => decide_eq_decide.2 ?_
    rw [ne_zero_iff, cwAt, cw_pos ha (aft_lt ha _ _ _)]
    constructor
    · rintro ⟨q, hq⟩; exact ⟨q, ((hst p hp).kept q).1 hq⟩
    · rintro ⟨q, hq⟩; exact ⟨q, ((hst p hp).kept q).2 hq⟩
   obtain ⟨p, n', e1, e2, e3⟩ := pick_cw hc
   have e0 := e1
   rw [pick_zero] at e0
   cases hf : (arcsOf g (x : Int)).find? (fun p => decide (0 < cwAt g a (y : Int) f x S p)) with
   | none => rw [hf] at e0; cases e0
   | some p' =>
     rw [hf] at e0
     injection e0 with e0
     injection e0 with e4 e5
     subst e4 e5
     rw [nthL_succ e1, lwL, hfe, hf]
     have hlt : keepA g a (distTo g a (y : Int)) f x K p' < 2 ^ a.accept.length := keepTo_lt ..
     exact congrArg _ (lw_nth hg ha hy (aft_lt ha _ _ _) hlt (hst p' e3) e2)
/-- the reference's least witness -/
def lstShort (g : Gr) (a : Au) (x y : Int) : Wk × Bool := if shortLen g a x y < 0 then ((0, []), false) else ((x, lwL g a (distTo g a y) (shortLen g a x y).toNat x.toNat (bit a.start.toNat)), true)
theorem lst_nth (g : Gr) (a : Au) (x y : Int) : lstShort g a x y = nthShort g a x y 0 := by
 unfold lstShort
 by_cases h : shortLen g a x y < 0
 · rw [if_pos h, nthShort, if_neg]
   rw [nthSh, decide_eq_false (by omega)]; simp
 · rw [if_neg h]
   obtain ⟨⟨hx0, hx1⟩, ⟨hy0, hy1⟩, hg, ha⟩ := cntOk_iff.1 (shortLen_ok (show 0 <= shortLen g a x y by omega))
   obtain ⟨x, rfl⟩ := Int.eq_ofNat_of_zero_le hx0
   obtain ⟨y, rfl⟩ := Int.eq_ofNat_of_zero_le hy0
   have hs : a.start.toNat < a.accept.length := by have := (auOk_iff.1 ha).2.1; omega
   have hd := shortLen_dist hg ha (show x < g.vals.length by omega) (show y < g.vals.length by omega)
   obtain ⟨L, hL⟩ := Int.eq_ofNat_of_zero_le (show 0 <= shortLen g a (x : Int) (y : Int) by omega)
   rw [hL] at hd
   rcases hd with ⟨h1, -⟩ | ⟨-, h1, h2⟩
   · omega
   rw [Int.toNat_natCast] at h1 h2
   have hb : ∀ q, (bit a.start.toNat).testBit q = true -> q = a.start.toNat := fun q hq => by rw [bit_test, decide_eq_true_eq] at hq; exact hq.symm
   have hI : KeepI g a y L x (bit a.start.toNat) (bit a.start.toNat) := by
    refine ⟨fun q hq m hm => ?_, fun q => ⟨fun hq => ⟨hq, ?_⟩, fun hq => hq.1⟩⟩
    · rw [hb q hq]; exact h2 m hm
    · rw [hb q hq]; exact h1
   have hc : 0 < cw g a (y : Int) L x (bit a.start.toNat) := (cw_pos ha (bit_lt hs)).2 ⟨a.start.toNat, by rw [bit_test]; simp, h1⟩
   have hsh : nthSh g a (x : Int) (y : Int) 0 = true := by
    rw [nthSh, decide_eq_true (by omega), Bool.true_and, hL, Int.toNat_natCast, wi_iff]
    have : cwI g a (x : Int) (y : Int) L = cw g a (y : Int) L x (bit a.start.toNat) := rfl
    omega
   rw [nthShort, if_pos hsh, hL, Int.toNat_natCast, Int.toNat_natCast, lw_nth hg ha (by omega) (bit_lt hs) (bit_lt hs) hI hc]
   rfl
/-- add up what is passed over, at most a million -/
def addK {α : Type} (k : α -> Nat) (r : Nat) (p : α) : Nat := min 1000000 (r + k p)
def passK {α : Type} (k : α -> Nat) (l : List α) (r : Nat) : Nat := l.foldl (addK k) r
/-- what is passed over ahead of step st -/
def overK (k : Arc -> Nat) (l : List Arc) (st : St) (r : Nat) : Nat := passK k (l.take (l.findIdx (fun p => p.1 == st))) r
theorem overK_cons_no {k : Arc -> Nat} {l : List Arc} {st : St} {r : Nat} {p : Arc} (hp : p.1 ≠ st) : overK k (p :: l) st r = overK k l st (addK k r p) := by
 have : (p :: l).findIdx (fun p => p.1 == st) = l.findIdx (fun p => p.1 == st) + 1 := by
  rw [List.findIdx_cons, show (p.1 == st) = false by simpa using hp]; rfl
 rw [overK, this, List.take_succ_cons]; rfl
theorem overK_cons_yes {k : Arc -> Nat} {l : List Arc} {st : St} {r : Nat} {p : Arc} (hp : p.1 = st) : overK k (p :: l) st r = r := by
 have : (p :: l).findIdx (fun p => p.1 == st) = 0 := by
  rw [List.findIdx_cons, show (p.1 == st) = true by simpa using hp]; rfl
 rw [overK, this]; rfl
theorem RowR.over {g : Gr} {a : Au} {y : Int} {f x s : Nat} {N : List Key} {C : Nat -> Nat} (hC : ∀ i k, N[i]? = some k -> C i = cw g a y f k.1 k.2) {st : St} {l : List Arc} {T : List (St × Nat)} (h : RowR g a x s N l T)
 (hne : ∀ p ∈ l, p.1 = st -> aft a s (valAt g x) p.2.1.toNat ≠ 0) (hex : ∃ p ∈ l, p.1 = st) : ∀ r, r <= 1000000 ->
 ∃ j i p, T[j]? = some (st, i) /\ (∀ j' q, j' < j -> T[j']? = some q -> q.1 ≠ st) /\ passK (fun e : St × Nat => C e.2) (T.take j) r = overK (cwAt g a y f x s) l st r /\ p ∈ l /\ p.1 = st /\ N[i]? = some (p.2.2.toNat, aft a s (valAt g x) p.2.1.toNat) := by
 induction h with
 | nil => obtain ⟨p, hp, _⟩ := hex; cases hp
 | @skip p0 l0 T0 h1 _ ih =>
   intro r hr
   have hp0 : p0.1 ≠ st := fun e => hne p0 (List.mem_cons_self ..) e h1
   obtain ⟨j, i, p, e1, e2, e3, e4, e5, e6⟩ := ih (fun p hp => hne p (List.mem_cons_of_mem _ hp)) (by
    obtain ⟨p, hp, hps⟩ := hex
    rcases List.mem_cons.1 hp with rfl | hp
    · exact absurd hps hp0
    · exact ⟨p, hp, hps⟩) r hr
   refine ⟨j, i, p, e1, e2, ?_, List.mem_cons_of_mem _ e4, e5, e6⟩
   rw [e3, overK_cons_no hp0, addK, cwAt, h1, cw_none, Nat.add_zero, Nat.min_eq_right hr]
 | @take p0 l0 T0 i0 h1 h2 _ ih =>
   intro r hr
   by_cases hp0 : p0.1 = st
   · refine ⟨0, i0, p0, by rw [<- hp0]; rfl, fun j' q hj => by omega, ?_, List.mem_cons_self .., hp0, h2⟩
     rw [overK_cons_yes hp0]; rfl
   · obtain ⟨j, i, p, e1, e2, e3, e4, e5, e6⟩ := ih (fun p hp => hne p (List.mem_cons_of_mem _ hp)) (by
      obtain ⟨p, hp, hps⟩ := hex
      rcases List.mem_cons.1 hp with rfl | hp
      · exact absurd hps hp0
      · exact ⟨p, hp, hps⟩) (addK (cwAt g a y f x s) r p0) (Nat.min_le_left _ _)
     refine ⟨j + 1, i, p, by simpa using e1, fun j' q hj hq => ?_, ?_, List.mem_cons_of_mem _ e4, e5, e6⟩
     · cases j' with
       | zero => simp only [List.getElem?_cons_zero, Option.some.injEq] at hq; rw [<- hq]; exact hp0
       | succ j' => exact e2 j' q (by omega) (by simpa using hq)
     · rw [overK_cons_no hp0, <- e3, List.take_succ_cons]
       show passK _ _ (addK (fun e : St × Nat => C e.2) r (p0.1, i0)) = _
       rw [addK, addK, hC _ _ h2]; rfl
end Go.Proofs.YtcnenpjaoalmeaaGreat
namespace Go.Proofs.YtcnenpjaoalmeaaGreat
set_option linter.unusedVariables false
set_option linter.unusedSimpArgs false
end Go.Proofs.YtcnenpjaoalmeaaGreat
namespace Go.Proofs.YtcnenpjaoalmeaaGreat
set_option linter.unusedVariables false
set_option linter.unusedSimpArgs false
open Go.ChangeShapes Go.WideShapes Go.ChangeAt Go.RowKit
/-- the steps lead from node x with the states s to y, where one of the states accepts -/
def goesL (g : Gr) (a : Au) (y : Int) : Nat -> Nat -> List St -> Prop
 | x, s, [] => (x : Int) = y /\ acc a s (valAt g x) = true
 | x, s, st :: L => ∃ p ∈ arcsOf g (x : Int), p.1 = st /\ goesL g a y p.2.2.toNat (aft a s (valAt g x) p.2.1.toNat) L
theorem nth_goes {g : Gr} {a : Au} {y : Int} : ∀ {f x s n : Nat}, n < cw g a y f x s -> goesL g a y x s (nthL g a y f x s n)
 | 0, x, s, n, h => by
   rw [cw] at h
   split at h
   · rename_i hc
     rw [Bool.and_eq_true, decide_eq_true_eq] at hc
     exact hc
   · exact absurd h (Nat.not_lt_zero n)
 | f + 1, x, s, n, h => by
   obtain ⟨p, n', e1, e2, e3⟩ := pick_cw h
   rw [nthL_succ e1]
   exact ⟨p, e3, rfl, nth_goes e2⟩
theorem arc_steps {g : Gr} (hgo : grOk g = true) {x : Int} {p : Arc} (hp : p ∈ arcsOf g x) : stepFrom g p.1 = x /\ stepTo g p.1 = p.2.2 /\ stepLetter g p.1 = p.2.1 := by
 have hg := grOk_iff.1 hgo
 obtain ⟨d, hd, hl, hto⟩ := arc_stepEd hgo hp
 refine ⟨?_, by rw [stepTo_of hd, hto], by rw [stepLetter_of hd, hl]⟩
 obtain ⟨e2, he2, hye⟩ := List.mem_flatMap.1 hp
 obtain ⟨i, hi, hie⟩ := List.getElem_of_mem he2
 have hid := edgeIdx_at hg (show g.edges[i]? = some e2 by rw [<- hie]; exact List.getElem?_eq_getElem hi)
 have hdd : d = e2 := by
  obtain ⟨-, hdm, hdi⟩ := stepEd_ok hd
  obtain ⟨k, hk, hke⟩ := List.getElem_of_mem hdm
  have hkd : g.edges[k]? = some d := by rw [<- hke]; exact List.getElem?_eq_getElem hk
  have hk2 := edgeIdx_at hg hkd
  have he1 : e2.1 = p.1.1 := by rcases mem_arcE.1 hye with ⟨-, rfl⟩ | ⟨-, rfl⟩ <;> rfl
  rw [hdi, <- he1, hid] at hk2
  obtain rfl : i = k := by omega
  exact hke.symm.trans hie
 subst hdd
 rw [stepFrom_of hd]
 rcases mem_arcE.1 hye with ⟨h1, rfl⟩ | ⟨h1, rfl⟩
 · exact h1
 · exact h1
/-- along a walk that goes: the nodes, the sets and the links -/
theorem goes_at {g : Gr} {a : Au} {y : Int} {k : Wk} (hgo : grOk g = true) (hk : 0 <= k.1) (h : goesL g a y k.1.toNat (bit a.start.toNat) k.2) : ∀ i, i <= k.2.length -> (∀ j, j < i -> linkAt g k j = true) /\ (nodesL g k).getD i 0 = (nodeAt g k i : Int) /\ goesL g a y (nodeAt g k i) (setAt g a k i) (k.2.drop i)
 | 0, _ => by
   have e : nodeAt g k 0 = k.1.toNat := rfl
   refine ⟨fun j hj => absurd hj (Nat.not_lt_zero j), ?_, ?_⟩
   · show k.1 = ((nodeAt g k 0 : Nat) : Int)
     rw [e]; omega
   · rw [e]; exact h
 | i + 1, hi => by
   obtain ⟨h1, h2, h3⟩ := goes_at hgo hk h i (by omega)
   have hlt : i < k.2.length := by omega
   obtain ⟨st, hst⟩ : ∃ st, k.2[i]? = some st := ⟨_, List.getElem?_eq_getElem hlt⟩
   have hdr : k.2.drop i = st :: k.2.drop (i + 1) := by
    rw [List.drop_eq_getElem_cons hlt]
    rw [List.getElem?_eq_getElem hlt] at hst
    injection hst with hst
    rw [hst]
   rw [hdr] at h3
   obtain ⟨p, hp, rfl, h4⟩ := h3
   obtain ⟨e1, e2, e3⟩ := arc_steps hgo hp
   have hr := arc_range (grOk_iff.1 hgo) hp
   have hn : (nodesL g k)[i + 1]? = some p.2.2 := by rw [nodesL_next hst, e2]
   have hnd : (nodesL g k).getD (i + 1) 0 = p.2.2 := by rw [List.getD_eq_getElem?_getD, hn]; rfl
   have hna : nodeAt g k (i + 1) = p.2.2.toNat := by rw [nodeAt, hnd]
   refine ⟨fun j hj => ?_, ?_, ?_⟩
   · rcases Nat.lt_succ_iff_lt_or_eq.1 hj with hj | rfl
     · exact h1 j hj
     · rw [linkAt, List.getD_eq_getElem?_getD, hst, Option.getD_some, e1, h2]; simp
   · rw [hnd, hna]; omega
   · have hset : setAt g a k (i + 1) = aft a (setAt g a k i) (valAt g (nodeAt g k i)) p.2.1.toNat := by
      rw [setAt, letAt, List.getD_eq_getElem?_getD, hst, Option.getD_some, e3]
     rw [hna, hset]
     exact h4
theorem goes_wit {g : Gr} {a : Au} {y : Int} {k : Wk} (hgo : grOk g = true) (ha : auOk a = true) (hk : 0 <= k.1 /\ k.1 < (g.vals.length : Int)) (hl : k.2.length <= 60) (h : goesL g a y k.1.toNat (bit a.start.toNat) k.2) : isWit g a k.1 y k = true := by
 obtain ⟨h1, h2, h3⟩ := goes_at hgo hk.1 h k.2.length (Nat.le_refl _)
 rw [List.drop_length] at h3
 have hw : walkOk g k = true := by
  simp only [walkOk, Bool.and_eq_true, wi_iff, decide_eq_true_eq, List.all_eq_true, List.mem_range]
  exact ⟨⟨⟨hgo, by omega⟩, hl⟩, h1⟩
 rw [isWit, matchB, walkEnd, if_pos hw, hw, ha]
 simp only [beq_self_eq_true, Bool.true_and, Bool.and_self]
 rw [Bool.and_eq_true]
 exact ⟨by rw [h3.1]; simp, h3.2⟩
theorem nthSh_parts {g : Gr} {a : Au} {x y n : Int} (h : nthSh g a x y n = true) : 0 <= shortLen g a x y /\ 0 <= n /\ n.toNat < cwI g a x y (shortLen g a x y).toNat /\ (0 <= x /\ x < (g.vals.length : Int)) /\ grOk g = true /\ auOk a = true := by
 rw [nthSh, Bool.and_eq_true, decide_eq_true_eq, wi_iff] at h
 obtain ⟨hx, -, hg, ha⟩ := cntOk_iff.1 (shortLen_ok h.1)
 exact ⟨h.1, h.2.1, by omega, hx, hg, ha⟩
theorem nthI_wit {g : Gr} {a : Au} {x y : Int} {f n : Nat} (hx : 0 <= x /\ x < (g.vals.length : Int)) (hg : grOk g = true) (ha : auOk a = true) (hf : f <= 60) (hn : n < cwI g a x y f) : isWit g a x y (x, nthI g a x y f n) = true := by
 have hl : (nthI g a x y f n).length = f := nthL_len hn
 exact goes_wit (k := (x, nthI g a x y f n)) hg ha hx (by show (nthI g a x y f n).length <= 60; omega) (nth_goes hn)
theorem nthShort_wit {g : Gr} {a : Au} {x y n : Int} (h : nthSh g a x y n = true) : isWit g a x y (nthShort g a x y n).1 = true /\ ((nthShort g a x y n).1.2.length : Int) = shortLen g a x y := by
 obtain ⟨h0, h1, h2, hx, hg, ha⟩ := nthSh_parts h
 rw [nthShort, if_pos h]
 have hlt := shortLen_lt g a x y
 refine ⟨nthI_wit hx hg ha (by omega) h2, ?_⟩
 show ((nthI g a x y (shortLen g a x y).toNat n.toNat).length : Int) = _
 rw [nthI, nthL_len h2]
 omega
theorem cwI_hit {g : Gr} {a : Au} {x y : Int} (h : cntOk g a x y = true) (f : Nat) : 0 < cwI g a x y f ↔ toG (nextI g a) (fun i => i ∈ goalsL g a y.toNat) f (x.toNat * a.accept.length + a.start.toNat) := by
 obtain ⟨⟨hx0, hx1⟩, ⟨hy0, hy1⟩, hg, ha⟩ := cntOk_iff.1 h
 have hst := (auOk_iff.1 ha).2.1
 obtain ⟨y, rfl⟩ := Int.eq_ofNat_of_zero_le hy0
 rw [cwI, cw_pos ha (bit_lt (by omega)), Int.toNat_natCast]
 constructor
 · rintro ⟨q, hq, hh⟩
   rw [bit_test, decide_eq_true_eq] at hq
   subst hq
   exact hh
 · intro hh
   exact ⟨a.start.toNat, by rw [bit_test]; simp, hh⟩
theorem short_dist {g : Gr} {a : Au} {x y : Int} (h : cntOk g a x y = true) : IsDist (nextI g a) (fun i => i ∈ goalsL g a y.toNat) (x.toNat * a.accept.length + a.start.toNat) (shortLen g a x y) := by
 obtain ⟨⟨hx0, hx1⟩, ⟨hy0, hy1⟩, hg, ha⟩ := cntOk_iff.1 h
 have hd := shortLen_dist hg ha (show x.toNat < g.vals.length by omega) (show y.toNat < g.vals.length by omega)
 rwa [Int.toNat_of_nonneg hx0, Int.toNat_of_nonneg hy0] at hd
theorem cwI_below {g : Gr} {a : Au} {x y : Int} {f : Nat} (h : cntOk g a x y = true) (hf : shortLen g a x y < 0 ∨ (f : Int) < shortLen g a x y) : cwI g a x y f = 0 := by
 rcases Nat.eq_zero_or_pos (cwI g a x y f) with h0 | h0
 · exact h0
 · have h0 := (cwI_hit h f).1 h0
   rcases short_dist h with ⟨-, hd⟩ | ⟨d0, -, d2⟩
   · exact absurd h0 (hd _)
   · exact absurd h0 (d2 f (by omega))
theorem cwI_short {g : Gr} {a : Au} {x y : Int} (h : 0 <= shortLen g a x y) : 0 < cwI g a x y (shortLen g a x y).toNat := by
 have hc := shortLen_ok h
 rw [cwI_hit hc]
 rcases short_dist hc with ⟨hd, -⟩ | ⟨-, d1, -⟩
 · omega
 · exact d1
theorem nthSh_zero {g : Gr} {a : Au} {x y : Int} : nthSh g a x y 0 = decide (0 <= shortLen g a x y) := by
 rw [nthSh]
 by_cases h : 0 <= shortLen g a x y
 · have := cwI_short h
   rw [decide_eq_true h, Bool.true_and, wi_iff]
   omega
 · rw [decide_eq_false h]; rfl
theorem cntW_below {g : Gr} {a : Au} {x y k : Int} (h : k < shortLen g a x y) : cntWalks g a x y k = 0 := by
 rw [cntWalks]
 split
 · rename_i hc
   rw [Bool.and_eq_true, wi_iff] at hc
   rw [cwI_below hc.1 (.inr (by omega))]; rfl
 · rfl
theorem cntW_short {g : Gr} {a : Au} {x y : Int} (h : 0 <= shortLen g a x y) : cntWalks g a x y (shortLen g a x y) = cntShort g a x y := by
 have hlt := shortLen_lt g a x y
 rw [cntWalks, if_pos (by rw [Bool.and_eq_true, wi_iff]; exact ⟨shortLen_ok h, by omega⟩), cntShort, if_neg (by omega)]
theorem spread_from {N : Nat} {next : Nat -> List Nat} {fs : List Nat} (hfs : ∀ i ∈ fs, i < N) (hn : ∀ i k, i < N -> k ∈ next i -> k < N) (i : Nat) (hi : i < N) :
 IsDist (turnL N next) (fun i => i ∈ fs) i ((spreadR N next fs).getD i 0) := by
 refine bfs_dist (N := N) (prev := next) (next := turnL N next) (fun i k _ hk h => mem_turnL.2 ⟨hk, h⟩) (fun i k hk h => hn k i hk h) (fun i k _ h => (mem_turnL.1 h).1) (fun i k _ _ h => (mem_turnL.1 h).2) _ _ _ ?_ (srcD_bfsI hfs).fuel i hi
 refine ⟨srcD_len N fs, fun i hi h0 => ?_, fun i hi hg => ?_, fun k hk h0 hq => ?_, fun h r hq i hi => ?_, ?_, (srcD_bfsI hfs).queue, fun i hi => (srcD_bfsI hfs).low i⟩
 · rw [srcD_at hi] at h0 ⊢
   by_cases h : i ∈ fs
   · rw [if_pos h]; exact h
   · rw [if_neg h] at h0; omega
 · rw [srcD_at hi, if_pos hg]
 · rw [srcD_at hk, if_neg hq] at h0; omega
 · have hm : h ∈ fs := by rw [hq]; simp
   have e1 := srcD_at (fs := fs) (hfs h hm)
   rw [if_pos hm] at e1
   rw [srcD_at hi, e1]
   split <;> omega
 · have : ∀ l : List Nat, (∀ x ∈ l, x ∈ fs) -> l.Pairwise (fun a b => (srcD N fs).getD a 0 <= (srcD N fs).getD b 0) := by
    intro l
    induction l with
    | nil => intro _; simp
    | cons x l ih =>
      intro hl
      refine List.pairwise_cons.2 ⟨fun y hy => ?_, ih fun z hz => hl z (List.mem_cons_of_mem _ hz)⟩
      have h1 := hl x (by simp)
      have h2 := hl y (List.mem_cons_of_mem _ hy)
      rw [srcD_at (hfs x h1), srcD_at (hfs y h2), if_pos h1, if_pos h2]
      omega
   exact this fs (fun _ h => h)
theorem toG_add {next : Nat -> List Nat} {goal : Nat -> Prop} (n : Nat) : ∀ (m i : Nat), toG next goal (m + n) i ↔ ∃ k, toG next (fun j => j = k) m i /\ toG next goal n k
 | 0, i => by
   rw [Nat.zero_add]
   exact ⟨fun h => ⟨i, rfl, h⟩, fun ⟨k, h1, h2⟩ => by cases (show i = k from h1); exact h2⟩
 | m + 1, i => by
   rw [show m + 1 + n = (m + n) + 1 by omega]
   constructor
   · rintro ⟨j, hj, h⟩
     obtain ⟨k, h1, h2⟩ := (toG_add n m j).1 h
     exact ⟨k, ⟨j, hj, h1⟩, h2⟩
   · rintro ⟨k, ⟨j, hj, h1⟩, h2⟩
     exact ⟨j, hj, (toG_add n m j).2 ⟨k, h1, h2⟩⟩
theorem toG_lt {next : Nat -> List Nat} {N : Nat} (hn : ∀ i k, i < N -> k ∈ next i -> k < N) {k : Nat} : ∀ (m i : Nat), i < N -> toG next (fun j => j = k) m i -> k < N
 | 0, i, hi, h => by cases (show i = k from h); exact hi
 | m + 1, i, hi, ⟨j, hj, h⟩ => toG_lt hn m j (hn i j hi hj) h
theorem toG_turn {next : Nat -> List Nat} {N s : Nat} (hn : ∀ i k, i < N -> k ∈ next i -> k < N) (hs : s < N) : ∀ (m k : Nat), toG (turnL N next) (fun j => j ∈ [s]) m k ↔ toG next (fun j => j = k) m s
 | 0, k => by
   show k ∈ [s] ↔ s = k
   rw [List.mem_singleton]
   exact eq_comm
 | m + 1, k => by
   rw [toG_add 1 m s]
   constructor
   · rintro ⟨j, hj, h⟩
     exact ⟨j, (toG_turn hn hs m j).1 h, k, (mem_turnL.1 hj).2, rfl⟩
   · rintro ⟨j, h1, i, hi, hik⟩
     cases (show i = k from hik)
     exact ⟨j, mem_turnL.2 ⟨toG_lt hn m s hs h1, hi⟩, (toG_turn hn hs m j).2 h1⟩
theorem mem_ansL {g : Gr} {a : Au} {x : Int} {y : Nat} (h : (wi x 0 ((g.vals.length : Int) - 1) && (grOk g && auOk a)) = true) : (y : Int) ∈ ansL g a x ↔ ∃ i, i < g.vals.length * a.accept.length /\ 0 <= (distFrom g a x).getD i 0 /\ i ∈ goalsL g a y := by
 have h9 := h
 simp only [Bool.and_eq_true] at h9
 have hn5 := (grOk_iff.1 h9.2.1).n5
 have hn1 := (auOk_iff.1 h9.2.2).1.1
 rw [ansL, if_pos h, mem_memI]
 constructor
 · rintro ⟨t, ht, _, hm⟩
   obtain ⟨i, hi, ho, rfl⟩ := (ansM_test ..).1 hm
   rw [okV, Bool.and_eq_true, decide_eq_true_eq] at ho
   refine ⟨i, hi, ho.1, mem_goalsL.2 ⟨i % a.accept.length, Nat.mod_lt _ (by omega), ?_, ?_⟩⟩
   · have : y = i / a.accept.length := by omega
     rw [this]; exact ho.2
   · have : y = i / a.accept.length := by omega
     rw [this, Nat.mul_comm, Nat.div_add_mod]
 · rintro ⟨i, hi, h0, hg⟩
   obtain ⟨s, hs, hc, rfl⟩ := mem_goalsL.1 hg
   have hd := div_vx (x := y) hs
   have hm := mod_vx (x := y) hs
   have hy : y < g.vals.length := by
    have : (y * a.accept.length + s) / a.accept.length < g.vals.length := Nat.div_lt_of_lt_mul (by rw [Nat.mul_comm a.accept.length g.vals.length]; exact hi)
    rwa [hd] at this
   refine ⟨y, rfl, by omega, (ansM_test ..).2 ⟨_, hi, ?_, hd⟩⟩
   rw [okV, hd, hm, hc, Bool.and_true, decide_eq_true_eq]
   exact h0
theorem hasAns_short (g : Gr) (a : Au) (x y : Int) : hasAns g a x y = decide (0 <= shortLen g a x y) := by
 cases hc : cntOk g a x y with
 | false =>
   have hs : shortLen g a x y = -1 := by
    rw [shortLen, if_neg]
    rw [cntOk] at hc
    rw [hc]; simp
   rw [hs, decide_eq_false (by omega), hasAns]
   cases hm : (ansL g a x).contains y with
   | false => rfl
   | true =>
     rw [List.contains_iff_mem] at hm
     exfalso
     have hr := ansL_range hm
     have hx : (wi x 0 ((g.vals.length : Int) - 1) && (grOk g && auOk a)) = true := by
      cases hh : (wi x 0 ((g.vals.length : Int) - 1) && (grOk g && auOk a)) with
      | true => rfl
      | false => rw [ansL, hh] at hm; cases hm
     have h9 := hx
     simp only [Bool.and_eq_true, wi_iff] at h9
     have : cntOk g a x y = true := cntOk_iff.2 ⟨by omega, hr, h9.2.1, h9.2.2⟩
     rw [this] at hc
     cases hc
 | true =>
   obtain ⟨⟨hx0, hx1⟩, ⟨hy0, hy1⟩, hg, ha⟩ := cntOk_iff.1 hc
   have hd := short_dist hc
   obtain ⟨x, rfl⟩ := Int.eq_ofNat_of_zero_le hx0
   obtain ⟨y, rfl⟩ := Int.eq_ofNat_of_zero_le hy0
   rw [Int.toNat_natCast, Int.toNat_natCast] at hd
   have hxg : (wi (x : Int) 0 ((g.vals.length : Int) - 1) && (grOk g && auOk a)) = true := by simp only [Bool.and_eq_true, wi_iff]; exact ⟨by omega, hg, ha⟩
   have hN : ∀ i k, i < g.vals.length * a.accept.length -> k ∈ nextI g a i -> k < g.vals.length * a.accept.length := fun i k _ hk => nextV_lt (grOk_iff.1 hg) ha hk
   obtain ⟨⟨_, hn⟩, ⟨h0, h1⟩, -, -⟩ := auOk_iff.1 ha
   have hi : x * a.accept.length + a.start.toNat < g.vals.length * a.accept.length := by
    calc x * a.accept.length + a.start.toNat < x * a.accept.length + a.accept.length := by omega
     _ = (x + 1) * a.accept.length := by rw [Nat.add_mul, Nat.one_mul]
     _ <= _ := Nat.mul_le_mul_right _ (by omega)
   have hF : ∀ k, k < g.vals.length * a.accept.length -> IsDist (turnL (g.vals.length * a.accept.length) (nextI g a)) (fun j => j ∈ [x * a.accept.length + a.start.toNat]) k ((distFrom g a (x : Int)).getD k 0) := fun k hk => by
    rw [distFrom, if_pos hxg, Int.toNat_natCast]
    exact spread_from (fun i hi' => by rw [List.mem_singleton] at hi'; subst hi'; exact hi) hN k hk
   rw [hasAns, Bool.eq_iff_iff, List.contains_iff_mem, mem_ansL hxg, decide_eq_true_eq]
   constructor
   · rintro ⟨i, hiN, hi0, hig⟩
     rcases hF i hiN with ⟨hf, -⟩ | ⟨-, f1, -⟩
     · omega
     · have hw := (toG_add (goal := fun i => i ∈ goalsL g a y) 0 ((distFrom g a (x : Int)).getD i 0).toNat (x * a.accept.length + a.start.toNat)).2 ⟨i, (toG_turn hN hi _ _).1 f1, hig⟩
       rcases hd with ⟨-, hd⟩ | ⟨d0, -⟩
       · exact absurd hw (hd _)
       · exact d0
   · intro h
     rcases hd with ⟨hd, -⟩ | ⟨-, d1, -⟩
     · omega
     · obtain ⟨k, k1, k2⟩ := (toG_add (goal := fun i => i ∈ goalsL g a y) 0 _ _).1 d1
       have hk := toG_lt hN _ _ hi k1
       refine ⟨k, hk, ?_, k2⟩
       rcases hF k hk with ⟨-, hf⟩ | ⟨f0, -⟩
       · exact absurd ((toG_turn hN hi _ _).2 k1) (hf _)
       · exact f0
end Go.Proofs.YtcnenpjaoalmeaaGreat
namespace Go.Proofs.YtcnenpjaoalmeaaGreat
set_option linter.unusedVariables false
set_option linter.unusedSimpArgs false
open Go.ChangeShapes Go.WideShapes Go.ChangeAt Go.RowKit Go.Maps
theorem key3 {P : Program} {k : TypeId} {f0 f1 f2 : Field} (hu : P.underlying k = some (.struct #[f0, f1, f2])) (h1 : P.keyType k = true) (hc : P.cellsOf k = 3) (h0 : P.underlying f0.type = some (.int .i64)) (h0' : P.underlying f1.type = some (.int .i64)) (h0'' : P.underlying f2.type = some (.int .i64))
 (c0 : P.cellsOf f0.type = 1) (c1 : P.cellsOf f1.type = 1) (c2 : P.cellsOf f2.type = 1) (o0 : f0.offset = 0) (o1 : f1.offset = 1) (o2 : f2.offset = 2) (n0 : (f0.name != "_") = true) (n1 : (f1.name != "_") = true) (n2 : (f2.name != "_") = true) {n : Nat} (hn : P.types.size = n + 1)
 (x s f : Int) (hx : (Lit.int .i64 x).wf = true) (hs : (Lit.int .i64 s).wf = true) (hf : (Lit.int .i64 f).wf = true) : keyOf P k (.agg #[.int .i64 x, .int .i64 s, .int .i64 f]) = some (.string (keyBytes [.int .i64 x, .int .i64 s, .int .i64 f])) := by
 have h4 : (Value.agg #[.int .i64 x, .int .i64 s, .int .i64 f]).formed P k = true := by simp [Value.formed, hu, hc]
 simp only [bne_iff_ne, ne_eq] at n0 n1 n2
 simp [keyOf, hu, h1, h4, hn, Program.keyLits, hc, h0, h0', h0'', c0, c1, c2, o0, o1, o2, n0, n1, n2, hx, hs, hf, Value.cells]
theorem laidOutK : laidOutB Tryz.prog = true := by kernel_rfl
theorem widePlace : (match Tryz.prog.underlying 62 with | some (.array _ _) | some (.struct _) => true | _ => false) = true := by rw [Tryz.underlying62]
theorem rowPlace : decide (62 < Tryz.prog.types.size) = true := by kernel_rfl
theorem typePlace : Tryz.prog.keyTypeAt 5 62 = true := by kernel_rfl
set_option maxRecDepth 100000 in
theorem keyedPlace : Keyed Tryz.prog 62 := Keyed.of_law (deep_law_laid laidOutK (m := 5) (by decide) (of_decide_eq_true rowPlace) typePlace widePlace)
theorem sizeK : ∃ n, Tryz.prog.types.size = n + 1 := ⟨Tryz.prog.types.size - 1, by have h : 0 < Tryz.prog.types.size := of_decide_eq_true (by kernel_rfl); omega⟩
def plKey (x s f : Int) : Lit := .string (keyBytes [.int .i64 x, .int .i64 s, .int .i64 f])
theorem keyTPlace : Tryz.prog.keyType 62 = true := by kernel_rfl
theorem cellsPlace : Tryz.prog.cellsOf 62 = 3 := by kernel_rfl
theorem cellsIntK : Tryz.prog.cellsOf 3 = 1 := by kernel_rfl
theorem keyPlace (x s f : Int) (hx : (Lit.int .i64 x).wf = true) (hs : (Lit.int .i64 s).wf = true) (hf : (Lit.int .i64 f).wf = true) : keyOf Tryz.prog 62 (.agg #[.int .i64 x, .int .i64 s, .int .i64 f]) = some (plKey x s f) := by
 obtain ⟨n, hn⟩ := sizeK
 exact key3 Tryz.underlying62 keyTPlace cellsPlace Tryz.underlying3 Tryz.underlying3 Tryz.underlying3 cellsIntK cellsIntK cellsIntK rfl rfl rfl (by decide) (by decide) (by decide) hn x s f hx hs hf
theorem plKey_inj {x s f x' s' f' : Int} (hx : (Lit.int .i64 x).wf = true) (hs : (Lit.int .i64 s).wf = true) (hf : (Lit.int .i64 f).wf = true) (hx' : (Lit.int .i64 x').wf = true) (hs' : (Lit.int .i64 s').wf = true) (hf' : (Lit.int .i64 f').wf = true) (h : plKey x s f = plKey x' s' f') : x = x' /\ s = s' /\ f = f' := by
 have h1 := keyPlace x s f hx hs hf
 have h2 := keyPlace x' s' f' hx' hs' hf'
 rw [<- h] at h2
 have h3 := keyedPlace.inj h1 h2
 injection h3 with h3
 simpa using h3
theorem wf_nat {x : Nat} (h : x <= 9223372036854775807) : (Lit.int .i64 (x : Int)).wf = true := by
 have e1 : IntKind.i64.min = -9223372036854775808 := by decide
 have e2 : IntKind.i64.max = 9223372036854775807 := by decide
 simp [Lit.wf, IntKind.wrap] <;> omega
abbrev Plc := Nat × Nat × Nat
def plcOk (z : Plc) : Prop := z.1 < 5 /\ z.2.1 < 4096 /\ z.2.2 <= 60
structure MemD {H : Type} (g : Gr) (a : Au) (y : Int) (D : DataW H) (M : List Plc) : Prop where
 map : IsMap D
 nod : M.Nodup
 rng : ∀ z ∈ M, plcOk z
 has : ∀ z : Plc, plcOk z -> Maps.has D (plKey z.1 z.2.1 z.2.2) = decide (z ∈ M)
 val : ∀ z ∈ M, D.atKey (plKey z.1 z.2.1 z.2.2) (.lit (.int .i64 0)) = .lit (.int .i64 (cw g a y z.2.2 z.1 z.2.1 : Nat))
theorem plKey_nat {z z' : Plc} (h : plcOk z) (h' : plcOk z') (e : plKey z.1 z.2.1 z.2.2 = plKey z'.1 z'.2.1 z'.2.2) : z = z' := by
 obtain ⟨x, s, f⟩ := z
 obtain ⟨x', s', f'⟩ := z'
 unfold plcOk at h h'
 simp only at h h' e
 obtain ⟨h1, h2, h3⟩ := plKey_inj (wf_nat (by omega)) (wf_nat (by omega)) (wf_nat (by omega)) (wf_nat (by omega)) (wf_nat (by omega)) (wf_nat (by omega)) e
 simp only [Prod.mk.injEq]
 omega
theorem MemD.empty {H : Type} (g : Gr) (a : Au) (y : Int) : MemD g a y (.map [] : DataW H) [] :=
 ⟨isMap_empty, List.nodup_nil, (fun z hz => by cases hz), (fun z _ => by simp [Maps.has_eq]), (fun z hz => by cases hz)⟩
theorem MemD.put {H : Type} {g : Gr} {a : Au} {y : Int} {D : DataW H} {M : List Plc} (h : MemD g a y D M) {z : Plc} (hz : plcOk z) (hn : z ∉ M) :
 MemD g a y (D.put (plKey z.1 z.2.1 z.2.2) (.lit (.int .i64 (cw g a y z.2.2 z.1 z.2.1 : Nat)))) (M ++ [z]) := by
 refine ⟨h.map.put _ _, List.nodup_append.2 ⟨h.nod, by simp, fun b hb c hc e => ?_⟩, fun u hu => ?_, fun u hu => ?_, fun u hu => ?_⟩
 · rw [List.mem_singleton] at hc
   subst hc e
   exact hn hb
 · rcases List.mem_append.1 hu with hu | hu
   · exact h.rng u hu
   · rw [List.mem_singleton] at hu
     subst hu
     exact hz
 · by_cases e : u = z
   · subst e
     rw [Maps.has_put_same h.map (show WideAt.IsKeyLit (plKey u.1 u.2.1 u.2.2) from trivial)]
     simp
   · rw [Maps.has_put_other (fun e2 => e (plKey_nat hu hz e2)), h.has u hu, decide_eq_decide, List.mem_append, List.mem_singleton]
     exact ⟨.inl, fun h => h.resolve_right e⟩
 · by_cases e : u = z
   · subst e
     rw [atKey_put_same h.map (show WideAt.IsKeyLit (plKey u.1 u.2.1 u.2.2) from trivial)]
   · have hu2 : u ∈ M := by
      rcases List.mem_append.1 hu with hu | hu
      · exact hu
      · rw [List.mem_singleton] at hu; exact absurd hu e
     rw [atKey_put_other (fun e2 => e (plKey_nat (h.rng u hu2) hz e2))]
     exact h.val u hu2
theorem MemD.len {H : Type} {g : Gr} {a : Au} {y : Int} {D : DataW H} {M : List Plc} (h : MemD g a y D M) : M.length <= 1249280 := by
 have h1 := nodup_subN (M.map fun z => (z.1 * 4096 + z.2.1) * 61 + z.2.2) (List.range 1249280) ?_ ?_
 · simpa using h1
 · rw [List.Nodup, List.pairwise_map]
   refine List.Pairwise.imp_of_mem ?_ h.nod
   intro b c hb hc hne he
   refine hne ?_
   have hb := h.rng b hb
   have hc := h.rng c hc
   unfold plcOk at hb hc
   exact Prod.ext (by omega) (Prod.ext (by omega) (by omega))
 · intro u hu
   obtain ⟨z, hz, rfl⟩ := List.mem_map.1 hu
   have hz := h.rng z hz
   unfold plcOk at hz
   rw [List.mem_range]
   omega
end Go.Proofs.YtcnenpjaoalmeaaGreat
namespace Go.Proofs.YtcnenpjaoalmeaaGreat
set_option linter.unusedVariables false
set_option linter.unusedSimpArgs false
open Go.ChangeShapes Go.WideShapes Go.ChangeAt Go.RowKit Go.Maps
attribute [local go_sem] ext_cell ext_frozen ext_lt ext_lt1 ext_lt2 ext_lt3 ltn2 ltn3 ltn13 lts1 lts2 lts3
theorem ownsMap_at {H : Type} {P : Program} {k : TypeId} {R : Value -> Option (DataW H × List MemPlace)} {w w' : World} {b n : Nat} {D : DataW H} (h : w.ownsMap P k R b n D) (hb : w'.heap[b]? = w.heap[b]?) : w'.ownsMap P k R b n D := by
 obtain ⟨es, clock, h1, h2⟩ := h
 exact ⟨es, clock, hb.trans h1, h2⟩
/-- 'm[k] = v', at the operation -/
theorem op_mapUpdate_own {H : Type} {P : Program} (w : World) {o : Oper} {a : Act} {K : Act -> World -> Prop} {Q : Exit -> Act -> World -> Prop}
 (m x v : Operand) (t : TypeId) (hop : o.op = Op.mapUpdate t m x v)
 (k e : TypeId) (KK : Keyed P k) (ht : P.underlying t = some (.map k e)) (R : Value -> Option (DataW H × List MemPlace)) (b n : Nat) (D : DataW H)
 (hm : a.eval m = .map (some b)) (hown : w.ownsMap P k R b n D) (hn : n < maxLen) (key val : Value) (kl : Lit) (hx : a.eval x = key) (hv : a.eval v = val) (hkey : keyOf P k key = some kl)
 (d : DataW H) (ps : List MemPlace) (hval : R val = some (d, ps))
 (hK : ∀ w', w'.ownsMap P k R b (n + 1) (D.put kl d) -> w.grownBy w' (some b) -> K (a.put o.dst undef) w') : Oper.wp P o a w K Q := by
 obtain ⟨w', hrun, r1, r2⟩ := hown.update KK ht hn hkey hval
 unfold Oper.wp
 simp [execOp, hop, hm, hx, hv, hrun, Result.andThen]
 exact hK w' r1 r2
/-- the counter in block bC; its memory is the map in block bM -/
def Ctr (g : Gr) (a : Au) (y : Int) (w : World) (bC bM : Nat) : Prop :=
 ∃ (B lo hi : Nat) (A1 A2 A3 A4 A5 : Option Addr) (c1 c2 c3 c4 c5 : Nat),
   Blk w bC 87 #[.slice A1 g.vals.length c1, .slice A2 g.edges.length c2, .int .i64 a.start, .slice A3 a.accept.length c3, .slice A4 a.accept.length c4, .int .i64 y, .slice A5 g.vals.length c5, .map (some bM)] /\
   GrV 0 B w (.agg #[.slice A1 g.vals.length c1, .slice A2 g.edges.length c2]) g /\ AuV 0 B w (.agg #[.int .i64 a.start, .slice A3 a.accept.length c3, .slice A4 a.accept.length c4]) a /\
   SSE lo hi w cA 4 (.slice A5 g.vals.length c5) ((List.range g.vals.length).map fun (x : Nat) => arcsOf g (x : Int)) /\ B <= bM /\ (hi <= bM ∨ bM < lo) /\ hi <= w.heap.size /\ B <= w.heap.size /\ bC ≠ bM
theorem Ctr.only {g : Gr} {a : Au} {y : Int} {w w' : World} {bC bM : Nat} (h : Ctr g a y w bC bM) (ho : Only bM (bM + 1) w w') : Ctr g a y w' bC bM := by
 obtain ⟨B, lo, hi, A1, A2, A3, A4, A5, c1, c2, c3, c4, c5, h1, h2, h3, h4, h5, h6, h7, h8, h9⟩ := h
 have hs := ho.size
 exact ⟨B, lo, hi, A1, A2, A3, A4, A5, c1, c2, c3, c4, c5, h1.only ho (by omega), h2.only ho h8 (.inl h5), h3.only ho h8 (.inl h5), h4.only ho h7 (by omega), h5, h6, by omega, by omega, h9⟩
theorem Ctr.keep {g : Gr} {a : Au} {y : Int} {w w' : World} {bC bM : Nat} (h : Ctr g a y w bC bM) (hb : Below w.heap.size w w') : Ctr g a y w' bC bM := h.only (Only.of_below hb _ _)
theorem Ctr.lt {g : Gr} {a : Au} {y : Int} {w : World} {bC bM : Nat} (h : Ctr g a y w bC bM) : bC < w.heap.size := by
 obtain ⟨B, lo, hi, A1, A2, A3, A4, A5, c1, c2, c3, c4, c5, h1, -⟩ := h
 exact h1.lt
theorem valOf {g : Gr} (hgo : grOk g = true) {x : Nat} (hx : x < g.vals.length) : ∃ vx : Nat, g.vals[x]? = some (vx : Int) /\ valAt g x = vx /\ vx <= 2 := by
 have hxi : g.vals[x]? = some g.vals[x] := List.getElem?_eq_getElem hx
 have hvr := (grOk_iff.1 hgo).vals _ (List.getElem_mem hx)
 obtain ⟨vx, hvx⟩ := Int.eq_ofNat_of_zero_le hvr.1
 refine ⟨vx, by rw [hxi, hvx], ?_, by omega⟩
 have := valAt_of hxi
 rw [this, hvx, Int.toNat_natCast]
/-- the memory, and what the counter's calls do to it: places of at most f steps come in -/
def Mem (g : Gr) (a : Au) (y : Int) (w : World) (bM : Nat) (M : List Plc) : Prop := ∃ D : DataW Unit, w.ownsMap Tryz.prog 62 (plainElem Tryz.prog 3) bM M.length D /\ MemD g a y D M
theorem Mem.keep {g : Gr} {a : Au} {y : Int} {w w' : World} {bM : Nat} {M : List Plc} (h : Mem g a y w bM M) (hb : Below w.heap.size w w') : Mem g a y w' bM M := by
 obtain ⟨D, h1, h2⟩ := h
 exact ⟨D, ownsMap_at h1 (hb.block _ h1.lt), h2⟩
def More (f : Nat) (M M' : List Plc) : Prop := ∃ T, M' = M ++ T /\ ∀ z ∈ T, z.2.2 <= f
theorem More.refl (f : Nat) (M : List Plc) : More f M M := ⟨[], by simp, fun z hz => by cases hz⟩
theorem More.trans {f : Nat} {M M' M'' : List Plc} (h : More f M M') (h' : More f M' M'') : More f M M'' := by
 obtain ⟨T, rfl, h1⟩ := h
 obtain ⟨T', rfl, h2⟩ := h'
 exact ⟨T ++ T', by rw [List.append_assoc], fun z hz => by rcases List.mem_append.1 hz with h | h; exact h1 z h; exact h2 z h⟩
theorem More.mono {f f' : Nat} {M M' : List Plc} (h : More f M M') (hf : f <= f') : More f' M M' := by
 obtain ⟨T, h1, h2⟩ := h
 exact ⟨T, h1, fun z hz => Nat.le_trans (h2 z hz) hf⟩
set_option maxHeartbeats 2000000 in
set_option maxRecDepth 100000 in
theorem next_any (g : Gr) (a : Au) (y : Int) (hgo : grOk g = true) (ha : auOk a = true) (bC bM x s lf l : Nat) (t : Int) (sid : Int) (sinv : Bool) (w : World) (hc : Ctr g a y w bC bM) (hx : x < g.vals.length) (hs : s < 2 ^ a.accept.length) (hlf : lf <= 60) (hl : l < 9) :
 Calls Tryz.prog 53 #[.pointer (some ⟨bC, 0, none⟩), .agg #[.int .i64 (x : Int), .int .i64 (s : Int), .int .i64 ((lf + 1 : Nat) : Int)], .agg #[.int .i64 sid, .bool sinv, .int .i64 (l : Int), .int .i64 t]] w fun e w' =>
  e = .returned (.agg #[.int .i64 t, .int .i64 (aft a s (valAt g x) l : Nat), .int .i64 (lf : Int)]) /\ Below w.heap.size w w' := by
 obtain ⟨B, lo, hi, A1, A2, A3, A4, A5, c1, c2, c3, c4, c5, hbk, hgv, hav, hlv, h5, h6, h7, h8, h9⟩ := hc
 obtain ⟨vx, hxi, hva, hvx⟩ := valOf hgo hx
 obtain ⟨vs, es, hag, h1, -⟩ := hgv
 injection hag with hag
 simp at hag
 obtain ⟨rfl, rfl⟩ := hag
 obtain ⟨b1, o1, rfl, -, hb1, dv⟩ := h1.intI hxi
 have hs4 := lt12 ha hs
 rw [hva]
 have z0 : w.cell? ⟨bC, 0, none⟩ = some (.slice (some ⟨b1, o1, none⟩) g.vals.length c1) := hbk.cell 0
 have z2 : w.cell? ⟨bC, 2, none⟩ = some (.int .i64 a.start) := hbk.cell 2
 have z3 : w.cell? ⟨bC, 3, none⟩ = some (.slice A3 a.accept.length c3) := hbk.cell 3
 have z4 : w.cell? ⟨bC, 4, none⟩ = some (.slice A4 a.accept.length c4) := hbk.cell 4
 have lC := hbk.lt
 have hb1w : b1 < w.heap.size := by omega
 have hxx : (x : Int) < (g.vals.length : Int) := by omega
 have HAF := Lib.hid (fun (W : World) (hW : Below w.heap.size w W) => after_any _ a s vx l W ((hav.mono (Nat.le_refl _) h8).keep hW) ha hs hvx hl)
 obtain ⟨M, hM⟩ : ∃ M, M = aft a s vx l := ⟨_, rfl⟩
 rw [<- hM] at HAF ⊢
 obtain ⟨L1, hL1⟩ : ∃ L1, L1 = lf + 1 := ⟨_, rfl⟩
 rw [<- hL1]
 have hL1a : lf + 1 <= L1 := by omega
 have hL1b : L1 <= lf + 1 := by omega
 have ql : IntKind.i64.wrap ((L1 : Int) - 1) = (lf : Int) := by rw [IntWalk.i64_in _ (by omega)]; omega
 clear hbk hav hlv h1 hxi hva hM hL1 hgo ha
 have lts : ∀ b, b < w.heap.size -> b < w.heap.size + 1 + 1 + 1 := fun b h => by omega
 have lC1 : bC < w.heap.size + 1 := by omega
 have lC2 : bC < w.heap.size + 1 + 1 := by omega
 have lC3 : bC < w.heap.size + 1 + 1 + 1 := by omega
 have lb1 : b1 < w.heap.size + 1 := by omega
 have lb2 : b1 < w.heap.size + 1 + 1 := by omega
 have lb3 : b1 < w.heap.size + 1 + 1 + 1 := by omega
 clear lts
 go_enter Tryz.func53, Tryz.ntmps53
 go_wp2_with fail
 refine wp_region_ext_tail 24 (by kernel_rfl) (by kernel_rfl) ?_
 simp only [List.take_succ_cons, List.take_zero]
 repeat (go_big_quiet_step ((go_at_call 83; exact Calls.ext_of (HAF.out _ (by repeat (first | exact Below.refl _ _ | assumption | refine Below.alloc ?_ (by simp <;> omega) _ | refine Below.drew ?_ | refine below_ext ?_ (by simp <;> omega) _ | exact ext_below _ _))))))
 refine wpQuiet_nil ?_
 intro _ hw'
 obtain ⟨u2, hw''⟩ := hw'
 subst hw''
 simp only [List.drop_succ_cons, List.drop_zero]
 go_wp2_with fail
 refine bodyPost_ret (v := .agg #[.int .i64 t, .int .i64 (M : Int), .int .i64 (lf : Int)]) (by simp [results, Tryz.results53, go_sem]) rfl ⟨rfl, ?_⟩
 repeat (first | exact Below.refl _ _ | refine Below.setCell ?_ (by simp <;> omega) _ | refine Below.alloc ?_ (by simp <;> omega) _ | refine below_ext ?_ (by simp <;> omega) _)
theorem cw_zeroS (g : Gr) (a : Au) (y : Int) (x s vx : Nat) (h : valAt g x = vx) : cw g a y 0 x s = if (decide ((x : Int) = y) && acc a s vx) = true then 1 else 0 := by rw [cw, h]
/-- what a call leaves -/
def Left (g : Gr) (a : Au) (y : Int) (f : Nat) (M : List Plc) (bM : Nat) (w w' : World) : Prop := Only bM (bM + 1) w w' /\ ∃ M', Mem g a y w' bM M' /\ More f M M'
theorem Left.of_below {g : Gr} {a : Au} {y : Int} {f : Nat} {M : List Plc} {bM : Nat} {w w' : World} (hm : Mem g a y w bM M) (hb : Below w.heap.size w w') : Left g a y f M bM w w' :=
 ⟨Only.of_below hb _ _, M, hm.keep hb, More.refl _ _⟩
theorem Mem.bound {g : Gr} {a : Au} {y : Int} {w : World} {bM : Nat} {M : List Plc} (h : Mem g a y w bM M) : M.length < maxLen := by
 obtain ⟨D, _, h2⟩ := h
 have := h2.len
 unfold maxLen; omega
theorem Mem.lt {g : Gr} {a : Au} {y : Int} {w : World} {bM : Nat} {M : List Plc} (h : Mem g a y w bM M) : bM < w.heap.size := by
 obtain ⟨D, h1, _⟩ := h
 exact h1.lt
theorem keyOfPlc {z : Plc} (hz : plcOk z) : keyOf Tryz.prog 62 (.agg #[.int .i64 (z.1 : Int), .int .i64 (z.2.1 : Int), .int .i64 (z.2.2 : Int)]) = some (plKey z.1 z.2.1 z.2.2) := by
 unfold plcOk at hz
 exact keyPlace _ _ _ (wf_nat (by omega)) (wf_nat (by omega)) (wf_nat (by omega))
theorem litI_inj {H : Type} {a b : Int} (h : (DataW.lit (.int .i64 a) : DataW H) = .lit (.int .i64 b)) : a = b := by
 injection h with h
 injection h
/-- the look-up, at each world that keeps the memory -/
theorem Mem.look {g : Gr} {a : Au} {y : Int} {w : World} {bM : Nat} {M : List Plc} (h : Mem g a y w bM M) {z : Plc} (hz : plcOk z) :
 (Instr.lookup 85 (.map (some bM)) (.agg #[.int .i64 (z.1 : Int), .int .i64 (z.2.1 : Int), .int .i64 (z.2.2 : Int)]) true).run Tryz.prog w =
  .ok (.tuple #[.int .i64 (if z ∈ M then (cw g a y z.2.2 z.1 z.2.1 : Int) else 0), .bool (decide (z ∈ M))]) w := by
 obtain ⟨D, h1, h2⟩ := h
 obtain ⟨v, ps, hrun, hv⟩ := h1.look_ok keyedPlace Tryz.underlying85 (Tryz.zeroValue3 _) (plainElem_int Tryz.underlying3 (by decide)) (keyOfPlc hz)
 obtain ⟨c, rfl, hc, -⟩ := plainElem_int_inv Tryz.underlying3 hv
 have hc := congrArg Prod.fst hc
 simp only at hc
 have hh := h2.has z hz
 rw [hh] at hrun
 rw [hrun]
 by_cases hm : z ∈ M
 · rw [if_pos hm, <- litI_inj ((h2.val z hm).symm.trans hc)]
 · have h3 := Maps.atKey_of_not_has (show Maps.has D (plKey z.1 z.2.1 z.2.2) = false by rw [hh]; exact decide_eq_false hm) (.lit (.int .i64 0))
   rw [if_neg hm, <- litI_inj (h3.symm.trans hc)]
set_option maxHeartbeats 8000000 in
set_option maxRecDepth 100000 in
theorem count_any (g : Gr) (a : Au) (y : Int) (hgo : grOk g = true) (ha : auOk a = true) (bC bM : Nat) : ∀ (lf x s : Nat) (M : List Plc) (w : World), Ctr g a y w bC bM -> Mem g a y w bM M -> x < g.vals.length -> s < 2 ^ a.accept.length -> lf <= 60 ->
 Calls Tryz.prog 40 #[.pointer (some ⟨bC, 0, none⟩), .agg #[.int .i64 (x : Int), .int .i64 (s : Int), .int .i64 (lf : Int)]] w fun e w' => e = .returned (.int .i64 (cw g a y lf x s : Nat)) /\ Left g a y lf M bM w w' := by
 intro lf
 induction lf with
 | zero =>
   intro x s M w hc hm hx hs hlf
   have HM := Lib.hid hm
   have hb0 : Below w.heap.size w (w.alloc (.cells #[.int .i64 (x : Int), .int .i64 (s : Int), .int .i64 0] 62)) := (Below.refl _ _).alloc (Nat.le_refl _) _
   by_cases hs0 : s = 0
   · have HR := Lib.hid (show cw g a y 0 x s = 0 by rw [hs0, cw_none])
     subst hs0
     clear hc hm hgo ha
     go_enter Tryz.func40, Tryz.ntmps40
     go_wp2_with fail
     go_ret
     exact ⟨by rw [HR.out]; rfl, Left.of_below HM.out hb0⟩
   · obtain ⟨B, lo, hi, A1, A2, A3, A4, A5, c1, c2, c3, c4, c5, hbk, hgv, hav, hlv, h5, h6, h7, h8, h9⟩ := hc
     obtain ⟨vx, hxi, hva, hvx⟩ := valOf hgo hx
     obtain ⟨vs, es, hag, h1, -⟩ := hgv
     injection hag with hag
     simp at hag
     obtain ⟨rfl, rfl⟩ := hag
     obtain ⟨b1, o1, rfl, -, hb1, dv⟩ := h1.intI hxi
     have hs4 := lt12 ha hs
     have z0 : w.cell? ⟨bC, 0, none⟩ = some (.slice (some ⟨b1, o1, none⟩) g.vals.length c1) := hbk.cell 0
     have z2 : w.cell? ⟨bC, 2, none⟩ = some (.int .i64 a.start) := hbk.cell 2
     have z3 : w.cell? ⟨bC, 3, none⟩ = some (.slice A3 a.accept.length c3) := hbk.cell 3
     have z4 : w.cell? ⟨bC, 4, none⟩ = some (.slice A4 a.accept.length c4) := hbk.cell 4
     have z5 : w.cell? ⟨bC, 5, none⟩ = some (.int .i64 y) := hbk.cell 5
     have lC := hbk.lt
     have lC1 : bC < w.heap.size + 1 := by omega
     have hb1w : b1 < w.heap.size := by omega
     have hb1w1 : b1 < w.heap.size + 1 := by omega
     have hxx : (x : Int) < (g.vals.length : Int) := by omega
     have HEND := Lib.hid (fun (W : World) (hW : Below w.heap.size w W) => acceptsAt_any _ a s vx W ((hav.mono (Nat.le_refl _) h8).keep hW) ha hs hvx)
     have hne : ((s : Int) == 0) = false := by simp; omega
     have hne2 : decide ((s : Int) = 0) = false := by simp; omega
     have HC0 := Lib.hid (cw_zeroS g a y x s vx hva)
     clear hbk hav hlv h1 hxi hva hgo ha hm
     by_cases hxy : (x : Int) = y
     · have hd : decide ((x : Int) = y) = true := decide_eq_true hxy
       have hd2 : ((x : Int) == y) = true := by simp [hxy]
       have hbb := HC0.out
       rw [hd, Bool.true_and] at hbb
       generalize acc a s vx = bb at *
       cases bb with
       | true =>
         have HBB := Lib.hid (hbb.trans (if_pos rfl))
         clear hxy HC0 hbb
         go_enter Tryz.func40, Tryz.ntmps40
         go_wp2_with fail
         refine wp_region_ext_lit (by kernel_rfl) (by kernel_rfl) ?_
         repeat (go_big_quiet_step ((go_at_call 70; exact Calls.ext_of (HEND.out _ (below_trans hb0 (ext_below _ _))))))
         refine wpQuiet_nil ?_
         intro _ hw'
         obtain ⟨u2, hw''⟩ := hw'
         subst hw''
         go_wp2_with fail
         go_ret
         exact ⟨by rw [HBB.out]; rfl, Left.of_below HM.out (below_trans hb0 (ext_below _ _))⟩
       | false =>
         have HBB := Lib.hid (hbb.trans (if_neg (by simp)))
         clear hxy HC0 hbb
         go_enter Tryz.func40, Tryz.ntmps40
         go_wp2_with fail
         refine wp_region_ext_lit (by kernel_rfl) (by kernel_rfl) ?_
         repeat (go_big_quiet_step ((go_at_call 70; exact Calls.ext_of (HEND.out _ (below_trans hb0 (ext_below _ _))))))
         refine wpQuiet_nil ?_
         intro _ hw'
         obtain ⟨u2, hw''⟩ := hw'
         subst hw''
         go_wp2_with fail
         go_ret
         exact ⟨by rw [HBB.out]; rfl, Left.of_below HM.out (below_trans hb0 (ext_below _ _))⟩
     · have hd : decide ((x : Int) = y) = false := decide_eq_false hxy
       have hd2 : ((x : Int) == y) = false := by simp [hxy]
       have HBB := Lib.hid (show cw g a y 0 x s = 0 from HC0.out.trans (by rw [hd, Bool.false_and]; simp))
       clear hxy HC0
       go_enter Tryz.func40, Tryz.ntmps40
       go_wp2_with fail
       refine wp_region_ext_lit (by kernel_rfl) (by kernel_rfl) ?_
       repeat (go_big_quiet_step (fail))
       refine wpQuiet_nil ?_
       intro _ hw'
       obtain ⟨u2, hw''⟩ := hw'
       subst hw''
       go_wp2_with fail
       go_ret
       exact ⟨by rw [HBB.out]; rfl, Left.of_below HM.out (below_trans hb0 (ext_below _ _))⟩
 | succ lf ih =>
   intro x s M w hc hm hx hs hlf
   obtain ⟨L1, hL1⟩ : ∃ L1, L1 = lf + 1 := ⟨_, rfl⟩
   have HNX := Lib.hid (fun (l : Nat) (t sid : Int) (sinv : Bool) (W : World) (hW : Ctr g a y W bC bM) (hl : l < 9) => next_any g a y hgo ha bC bM x s lf l t sid sinv W hW hx hs (by omega) hl)
   rw [<- hL1] at hlf HNX ⊢
   have hL1a : lf + 1 <= L1 := by omega
   have hL1b : L1 <= lf + 1 := by omega
   have HM := Lib.hid hm
   have HCT := Lib.hid hc
   have hbMw := hm.lt
   have hbCM : bC ≠ bM := by obtain ⟨_, _, _, _, _, _, _, _, _, _, _, _, _, h⟩ := hc; exact h.2.2.2.2.2.2.2.2
   have hb0 : Below w.heap.size w (w.alloc (.cells #[.int .i64 (x : Int), .int .i64 (s : Int), .int .i64 (L1 : Int)] 62)) := (Below.refl _ _).alloc (Nat.le_refl _) _
   have hs4 := lt12 ha hs
   have hn5 := (grOk_iff.1 hgo).n5
   by_cases hs0 : s = 0
   · have HR := Lib.hid (show cw g a y L1 x s = 0 by rw [hs0, cw_none])
     subst hs0
     clear hc hm hgo ha ih hL1 HNX
     go_enter Tryz.func40, Tryz.ntmps40
     go_wp2_with fail
     go_ret
     exact ⟨by rw [HR.out]; rfl, Left.of_below HM.out hb0⟩
   · have hz : plcOk (x, s, L1) := ⟨by simp only; omega, by simp only; omega, by simp only; omega⟩
     have hlk : ∀ u, (Instr.lookup 85 (.map (some bM)) (.agg #[.int .i64 (x : Int), .int .i64 (s : Int), .int .i64 (L1 : Int)]) true).run Tryz.prog (ext (w.alloc (.cells #[.int .i64 (x : Int), .int .i64 (s : Int), .int .i64 (L1 : Int)] 62)) u) =
      .ok (.tuple #[.int .i64 (if (x, s, L1) ∈ M then (cw g a y L1 x s : Int) else 0), .bool (decide ((x, s, L1) ∈ M))]) (ext (w.alloc (.cells #[.int .i64 (x : Int), .int .i64 (s : Int), .int .i64 (L1 : Int)] 62)) u) :=
      fun u => ((hm.keep hb0).keep (ext_below _ u)).look hz
     obtain ⟨B, lo, hi, A1, A2, A3, A4, A5, c1, c2, c3, c4, c5, hbk, hgv, hav, hlv, h5, h6, h7, h8, h9⟩ := hc
     have z7 : w.cell? ⟨bC, 7, none⟩ = some (.map (some bM)) := hbk.cell 7
     have z6 : w.cell? ⟨bC, 6, none⟩ = some (.slice A5 g.vals.length c5) := hbk.cell 6
     have lC := hbk.lt
     have lC1 : bC < w.heap.size + 1 := by omega
     have hne : ((s : Int) == 0) = false := by simp; omega
     have hne2 : decide ((s : Int) = 0) = false := by simp; omega
     have hl0 : ((L1 : Int) == 0) = false := by simp; omega
     have hl1 : decide ((L1 : Int) = 0) = false := by simp; omega
     by_cases hmem : (x, s, L1) ∈ M
     · rw [if_pos hmem, decide_eq_true hmem] at hlk
       generalize cw g a y L1 x s = C at *
       clear hbk hgv hav hlv hgo ha ih hL1 HNX hm hmem hz
       go_enter Tryz.func40, Tryz.ntmps40
       go_wp2_with fail
       refine wp_region_ext_lit (by kernel_rfl) (by kernel_rfl) ?_
       repeat (go_big_quiet_step (fail))
       refine wpQuiet_nil ?_
       intro _ hw'
       obtain ⟨u2, hw''⟩ := hw'
       subst hw''
       go_wp2_with fail
       go_ret
       exact ⟨rfl, Left.of_below HM.out (below_trans hb0 (ext_below _ _))⟩
     · rw [if_neg hmem, decide_eq_false hmem] at hlk
       have HNM := Lib.hid hmem
       have HZ := Lib.hid hz
       have hA5 : ∃ b5 o5, A5 = some ⟨b5, o5, none⟩ /\ b5 < w.heap.size /\ ∃ A7 c7, w.cell? ⟨b5, o5 + x, none⟩ = some (.slice A7 (arcsOf g (x : Int)).length c7) /\ (arcsOf g (x : Int)).length <= c7 /\ c7 <= 9223372036854775807 /\ SlI lo hi w cA 4 (.slice A7 (arcsOf g (x : Int)).length c7) (arcsOf g (x : Int)) := by
        obtain ⟨b5, o5, A7, c7, e1, e2, e3, e4, e5, e6, e7, -⟩ := hlv.row h7 (i := x) (xs := arcsOf g (x : Int)) (by simp [hx])
        exact ⟨b5, o5, e1, by omega, A7, c7, e4, e5, e6, e7⟩
       obtain ⟨b5, o5, rfl, hb5, A7, c7, d5, hl7, hm7, hI7⟩ := hA5
       have hal := arcs_len (grOk_iff.1 hgo) (x : Int)
       have hxx : (x : Int) < (g.vals.length : Int) := by omega
       have hb51 : b5 < w.heap.size + 1 := by omega
       have HI7 := Lib.hid hI7
       have HREC := Lib.hid ih
       have HGO := Lib.hid hgo
       have HA := Lib.hid ha
       have HALL := Lib.hid (cwTo_all g a y lf x s)
       rw [<- hL1] at HALL
       have HL := Lib.hid hL1
       clear hbk hgv hav hlv hgo ha ih hL1 hm hmem hz hI7
       go_enter Tryz.func40, Tryz.ntmps40
       go_upto_region 7 with fail
       refine wp_region_ext_lit (by kernel_rfl) (by kernel_rfl) ?_
       repeat (go_big_quiet_step (fail))
       refine wpQuiet_nil ?_
       intro _ hw'
       obtain ⟨u2, hw''⟩ := hw'
       subst hw''
       clear hlk
       go_upto_region 11 with fail
       refine wp_region_ext_lit (by kernel_rfl) (by kernel_rfl) ?_
       repeat (go_big_quiet_step (fail))
       refine wpQuiet_nil ?_
       intro _ hw'
       obtain ⟨u3, hw''⟩ := hw'
       subst hw''
       go_wp2_with fail
       obtain ⟨W1, hW1⟩ : ∃ W1, W1 = ext (ext (w.alloc (.cells #[.int .i64 (x : Int), .int .i64 (s : Int), .int .i64 (L1 : Int)] 62)) u2) u3 := ⟨_, rfl⟩
       have hbU := below_trans (ext_below (w.alloc (.cells #[.int .i64 (x : Int), .int .i64 (s : Int), .int .i64 (L1 : Int)] 62)) u2) (ext_below _ u3)
       have hbW := below_trans hb0 hbU
       rw [<- hW1] at hbU hbW ⊢
       have e0 : W1.cell? ⟨w.heap.size, 0, none⟩ = some (.int .i64 (x : Int)) := kcell hbU (by simp)
       have e1 : W1.cell? ⟨w.heap.size, 1, none⟩ = some (.int .i64 (s : Int)) := kcell hbU (by simp)
       have e2 : W1.cell? ⟨w.heap.size, 2, none⟩ = some (.int .i64 (L1 : Int)) := kcell hbU (by simp)
       have lE : w.heap.size < W1.heap.size := by have := hbU.size; simp at this; omega
       have HM1 := Lib.hid (HM.out.keep hbW)
       have HC1 := Lib.hid (HCT.out.keep hbW)
       have z7 := kcell hbW z7
       have HBW := Lib.hid hbW
       clear hW1 hbU hbW d5 z6 hb0 HCT lC1 hb51
       go_loopw [7, 61] (fun nn ii wr => ∃ (i : Nat) (M' : List Plc), i <= (arcsOf g (x : Int)).length /\ ii = .int .i64 (i : Int) /\ nn = .int .i64 (cwTo g a y lf x s i : Nat) /\ Only bM (bM + 1) W1 wr /\ Mem g a y wr bM M' /\ More lf M M') (fun _ ii _ => (arcsOf g (x : Int)).length - (intOf ii).toNat)
       case atStart => exact ⟨0, M, Nat.zero_le _, rfl, rfl, Only.refl _ _ _, HM1.out, More.refl _ _⟩
       case round =>
        clear HM1
        obtain ⟨i, M', hi, rfl, rfl, hon, hmm, hmo⟩ := hrel
        have hsz := hon.size
        have e0 := ocell hon e0 lE (.inr (by omega))
        have e1 := ocell hon e1 lE (.inr (by omega))
        have e2 := ocell hon e2 lE (.inr (by omega))
        have lEr : w.heap.size < wr.heap.size := by omega
        have HON := Lib.hid hon
        have HMM := Lib.hid hmm
        have HMO := Lib.hid hmo
        have hcle := cwTo_le g a y lf x s i
        by_cases hlt : i < (arcsOf g (x : Int)).length
        · have hyi : (arcsOf g (x : Int))[i]? = some (arcsOf g (x : Int))[i] := List.getElem?_eq_getElem hlt
          have hyr := arc_range (grOk_iff.1 HGO.out) (List.getElem_mem hlt)
          generalize (arcsOf g (x : Int))[i] = p at hyi hyr
          obtain ⟨⟨sid, sinv⟩, l, t⟩ := p
          simp only at hyr
          obtain ⟨l, rfl⟩ := Int.eq_ofNat_of_zero_le hyr.1.1
          obtain ⟨t, rfl⟩ := Int.eq_ofNat_of_zero_le hyr.2.1
          obtain ⟨b7, o7, rfl, hb7l, hb7, k0, k1, k2, k3⟩ := HI7.out.arc hyi
          simp only at k0 k1 k2 k3
          have hb7M : b7 < bM ∨ bM + 1 <= b7 := by omega
          have hb71 := Nat.lt_of_lt_of_le (show b7 < w.heap.size by omega) HBW.out.size
          have k0 := ocell hon (kcell HBW.out k0) hb71 hb7M
          have k1 := ocell hon (kcell HBW.out k1) hb71 hb7M
          have k2 := ocell hon (kcell HBW.out k2) hb71 hb7M
          have k3 := ocell hon (kcell HBW.out k3) hb71 hb7M
          have hb7w : b7 < wr.heap.size := by omega
          have hts : cwTo g a y lf x s (i + 1) = min 1000000 (cwTo g a y lf x s i + cw g a y lf t (aft a s (valAt g x) l)) := by
           rw [cwTo_succ hyi, cwStep]; simp
          have hAF := aft_lt HA.out s (valAt g x) l
          have hcl2 := cw_le g a y lf t (aft a s (valAt g x) l)
          have HNC := Lib.hid (fun (W : World) (hW : Ctr g a y W bC bM) => HNX.out l (t : Int) sid sinv W hW (by omega))
          have HRC := Lib.hid (fun (W : World) (h1 : Ctr g a y W bC bM) (h2 : Mem g a y W bM M') => HREC.out t (aft a s (valAt g x) l) M' W h1 h2 (by omega) hAF (by omega))
          generalize aft a s (valAt g x) l = AF at *
          have hbE : Below wr.heap.size wr (wr.alloc (.cells #[.int .i64 sid, .bool sinv, .int .i64 (l : Int), .int .i64 (t : Int)] 89)) := (Below.refl _ _).alloc (Nat.le_refl _) _
          have hii : (i : Int) < ((arcsOf g (x : Int)).length : Int) := by omega
          have HTS := Lib.hid hts
          clear hts hyi hon hmm hmo
          generalize cwTo g a y lf x s i = m1 at *
          generalize cw g a y lf t AF = CC at *
          go_wp2_with fail
          refine (HNC.out _ ((HC1.out.only HON.out).keep hbE)).mono ?_
          rintro en w3 ⟨rfl, hb3⟩
          have hb3' := below_trans hbE hb3
          have HC3 := Lib.hid ((HC1.out.only HON.out).keep hb3')
          have HM3 := Lib.hid (HMM.out.keep hb3')
          have HO3 := Lib.hid (HON.out.trans (Only.of_below hb3' bM (bM + 1)))
          clear hb3 hb3' k0 k1 k2 k3
          go_wp2_with fail
          refine (HRC.out _ HC3.out HM3.out).mono ?_
          rintro en w4 ⟨rfl, hon4, M4, hm4, hmo4⟩
          have HO4 := Lib.hid (HO3.out.trans hon4)
          have HM4 := Lib.hid hm4
          have HMO4 := Lib.hid (HMO.out.trans hmo4)
          clear hon4 hm4 hmo4
          go_wp2_with fail
          go_roundw
          case rel => exact ⟨i + 1, M4, by omega, by go_num, by rw [HTS.out]; exact congrArg (Value.int IntKind.i64) (by first | omega | (split <;> omega)), HO4.out, HM4.out, HMO4.out⟩
          case measure => simp [intOf]; omega
        · obtain rfl : i = (arcsOf g (x : Int)).length := by omega
          rw [HALL.out] at hcle ⊢
          generalize hCW : cw g a y L1 x s = CW at *
          have z7 := ocell hon z7 (by omega) (by omega)
          have lCr : bC < wr.heap.size := by omega
          have HCW := Lib.hid hCW
          clear hon hmm hmo hCW HALL
          go_upto_region 16 with fail
          refine F_start 6 (fun w' => w'.cell? ⟨bC, 7, none⟩ = some (.map (some bM)) /\ w'.cell? ⟨w.heap.size, 0, none⟩ = some (.int .i64 (x : Int)) /\ w'.cell? ⟨w.heap.size, 1, none⟩ = some (.int .i64 (s : Int)) /\ w'.cell? ⟨w.heap.size, 2, none⟩ = some (.int .i64 (L1 : Int))) (by kernel_rfl) (by exact ⟨z7, e0, e1, e2⟩) (fun hS inv => ?_)
          refine F_tk 0 inv ?_
          try simp only [tA,tB,tC,Act.put,tE,tF,tG]
          clear inv; intro inv
          refine F_tk 1 inv ?_
          try simp only [tA,tB,tC,Act.put,tE,tF,tG]
          clear inv; intro inv
          refine F_tk 2 inv ?_
          try simp only [tA,tB,tC,Act.put,tE,tF,tG]
          clear inv; intro inv
          refine F_tk 3 inv ?_
          try simp only [tA,tB,tC,Act.put,tE,tF,tG]
          clear inv; intro inv
          refine F_tk 4 inv ?_
          try simp only [tA,tB,tC,Act.put,tE,tF,tG]
          clear inv; intro inv
          refine F_tk 5 inv ?_
          try simp only [tA,tB,tC,Act.put,tE,tF,tG]
          clear inv; intro inv
          obtain ⟨D', hD1, hD2⟩ := HMM.out
          have hln := hD2.len
          have hnz : (x, s, L1) ∉ M' := by
           obtain ⟨T, hT, hTl⟩ := HMO.out
           rw [hT, List.mem_append]
           rintro (h | h)
           · exact HNM.out h
           · have := hTl _ h; simp only at this; omega
          refine F_l1 6 ?_; intro K hK
          refine op_mapUpdate_own _ _ _ _ _ rfl _ _ keyedPlace Tryz.underlying85 (plainElem Tryz.prog 3) _ _ _ (by rfl) hD1.drew (by unfold maxLen; omega) _ _ _ (by rfl) (by rfl) (keyOfPlc HZ.out) _ _ (plainElem_int Tryz.underlying3 (wf_nat (by omega))) ?_
          intro w9 hown9 hgr9
          refine hK _ _ ?_
          clear hK K inv hS
          try simp only [tA,tB,tC,Act.put,tE,tF,tG]
          have hput := hD2.put HZ.out hnz
          simp only at hput
          rw [HCW.out] at hput
          have hm9 : Mem g a y w9 bM (M' ++ [(x, s, L1)]) := ⟨_, by rw [List.length_append]; exact hown9, hput⟩
          have ho9 : Only bM (bM + 1) wr w9 := ⟨hgr9.os, hgr9.tape, hgr9.output, hgr9.size, fun n hn ho => hgr9.block n hn (fun e => by injection e with e; omega)⟩
          have HO9 := Lib.hid ((Only.of_below HBW.out bM (bM + 1)).trans (HON.out.trans ho9))
          have HM9 := Lib.hid hm9
          have HMO9 := Lib.hid (show More L1 M (M' ++ [(x, s, L1)]) from (HMO.out.mono (by omega)).trans ⟨[(x, s, L1)], rfl, fun z hz => by rw [List.mem_singleton] at hz; subst hz; exact Nat.le_refl _⟩)
          clear hown9 hgr9 hm9 ho9 hput hnz hD1 hD2
          go_wp2_with fail
          go_ret
          exact ⟨by rw [HCW.out]; rfl, HO9.out, _, HM9.out, HMO9.out⟩
theorem Mem.new (g : Gr) (a : Au) (y : Int) (w : World) : Mem g a y (w.alloc (.map #[] 0)) w.heap.size [] := ⟨.map [], World.ownsMap_made w _ _ _, MemD.empty g a y⟩
set_option maxHeartbeats 4000000 in
set_option maxRecDepth 100000 in
theorem newCounter_any (v1 v2 : Value) (g : Gr) (a : Au) (y : Int) (w : World) (hgv : GrV 0 w.heap.size w v1 g) (hav : AuV 0 w.heap.size w v2 a) (hgo : grOk g = true) (ha : auOk a = true) :
 Calls Tryz.prog 38 #[v1, v2, .int .i64 y] w fun e w' => ∃ bC bM, e = .returned (.pointer (some ⟨bC, 0, none⟩)) /\ w.heap.size <= bM /\ Ctr g a y w' bC bM /\ Mem g a y w' bM [] /\ Below w.heap.size w w' := by
 have hgv0 := hgv
 have hav0 := hav
 obtain ⟨A1, c1, A2, c2, rfl, hl1, hm1, hl2, hm2, -, -⟩ := hgv.form
 obtain ⟨A3, c3, A4, c4, rfl, hl3, hm3, hl4, hm4, -⟩ := hav.form ha
 have hb0 : Below w.heap.size w ((w.alloc (.cells #[.slice A1 g.vals.length c1, .slice A2 g.edges.length c2] 27)).alloc (.cells #[.int .i64 a.start, .slice A3 a.accept.length c3, .slice A4 a.accept.length c4] 31)) := ((Below.refl _ _).alloc (Nat.le_refl _) _).alloc (by simp) _
 have HGV := Lib.hid hgv0
 have HAV := Lib.hid hav0
 have HAR := Lib.hid (fun (W : World) (hW : Below w.heap.size w W) => arcs_any _ g W (HGV.out.keep hW) (grOk_iff.1 hgo))
 clear hgv hav hgv0 hav0 hgo ha
 have hmm := @run_makeMap Tryz.prog
 go_enter Tryz.func38, Tryz.ntmps38
 go_upto_region 1 with fail
 obtain ⟨W0, hW0⟩ : ∃ W0, W0 = ((w.alloc (.cells #[.slice A1 g.vals.length c1, .slice A2 g.edges.length c2] 27)).alloc (.cells #[.int .i64 a.start, .slice A3 a.accept.length c3, .slice A4 a.accept.length c4] 31)) := ⟨_, rfl⟩
 rw [<- hW0] at hb0 ⊢
 have x0 : W0.cell? ⟨w.heap.size, 0, none⟩ = some (.slice A1 g.vals.length c1) := by rw [hW0]; simp
 have x1 : W0.cell? ⟨w.heap.size, 1, none⟩ = some (.slice A2 g.edges.length c2) := by rw [hW0]; simp
 have y0 : W0.cell? ⟨w.heap.size + 1, 0, none⟩ = some (.int .i64 a.start) := by rw [hW0]; simp
 have y1 : W0.cell? ⟨w.heap.size + 1, 1, none⟩ = some (.slice A3 a.accept.length c3) := by rw [hW0]; simp
 have y2 : W0.cell? ⟨w.heap.size + 1, 2, none⟩ = some (.slice A4 a.accept.length c4) := by rw [hW0]; simp
 have hs0 : w.heap.size + 1 + 1 = W0.heap.size := by rw [hW0]; simp
 try rw [hs0]
 have l0 : w.heap.size + 1 < W0.heap.size := by omega
 have l00 : w.heap.size < W0.heap.size := by omega
 clear hW0 hs0
 have hbD := below_trans hb0 ((Below.refl W0.heap.size W0).drew)
 refine F_start 7 (fun w' => w'.cell? ⟨w.heap.size, 0, none⟩ = some (.slice A1 g.vals.length c1) /\ w'.cell? ⟨w.heap.size, 1, none⟩ = some (.slice A2 g.edges.length c2) /\ w'.cell? ⟨w.heap.size + 1, 0, none⟩ = some (.int .i64 a.start) /\ w'.cell? ⟨w.heap.size + 1, 1, none⟩ = some (.slice A3 a.accept.length c3) /\ w'.cell? ⟨w.heap.size + 1, 2, none⟩ = some (.slice A4 a.accept.length c4)) (by kernel_rfl) (by exact ⟨x0, x1, y0, y1, y2⟩) (fun hS inv => ?_)
 refine F_tk 0 inv ?_
 try simp only [tA,tB,tC,Act.put,tE,tF,tG]
 clear inv; intro inv
 refine F_tk 1 inv ?_
 try simp only [tA,tB,tC,Act.put,tE,tF,tG]
 clear inv; intro inv
 refine F_tk 2 inv ?_
 try simp only [tA,tB,tC,Act.put,tE,tF,tG]
 clear inv; intro inv
 refine F_tk 3 inv ?_
 try simp only [tA,tB,tC,Act.put,tE,tF,tG]
 clear inv; intro inv
 have hS0 := hS
 refine F_two (i := 4) (j := 5) (by kernel_rfl) rfl rfl rfl rfl (by omega) inv (fun K hK => ?_) (fun K hK => ?_)
 all_goals (try simp only [tA,tB,tC])
 · go_simp
   refine (HAR.out _ hbD).mono ?_
   rintro en wA ⟨vA, rfl, hsse, hbA⟩
   obtain ⟨A5, c5, hv5, hl5, hm5⟩ := hsse.shape
   have hlen5 : ((List.range g.vals.length).map fun (x : Nat) => arcsOf g (x : Int)).length = g.vals.length := by simp
   rw [hlen5] at hv5 hl5
   subst hv5
   have hbDA := below_trans hbD hbA
   have HSSE := Lib.hid hsse
   have hsA := hbA.size
   clear hsse hlen5
   refine hK.out _ _ (kB5 hbA hS) (fun _ _ => ?_)
   try simp only [tA,tB,tC,Act.put,tE,tF,tG]
   clear hK K inv hS; rename_i hS inv
   refine F_o1 5 inv ?_; intro K hK
   try simp only [tA,tB,tC]
   go_simp
   have hbM : Below wA.heap.size wA (wA.alloc (.map #[] 0)) := (Below.refl _ _).alloc (Nat.le_refl _) _
   have HMM := Lib.hid (Mem.new g a y wA)
   refine hK.out _ _ (kA5 _ hS) (fun _ _ => ?_)
   try simp only [tA,tB,tC,Act.put,tE,tF,tG]
   clear hK K inv hS; rename_i hS inv
   refine F_tk 6 inv ?_
   try simp only [tA,tB,tC,Act.put,tE,tF,tG]
   clear inv; intro inv
   refine F_tail (i := 7) (by kernel_rfl) rfl rfl (by omega) (fun K hK => ?_)
   try simp only [tA,tB,tC]
   go_simp
   refine hK.out _ _ ?_
   try simp only [tA,tB,tC,Act.put,tE,tF,tG]
   clear hK K
   try clear inv hS
   refine F_l1 8 ?_; intro K hK
   go_simp
   refine hK _ _ ?_
   clear hK K
   go_wp2_with fail
   have hbX : Below (wA.alloc (.map #[] 0)).heap.size (wA.alloc (.map #[] 0)) ((wA.alloc (.map #[] 0)).alloc (.cells #[.slice A1 g.vals.length c1, .slice A2 g.edges.length c2, .int .i64 a.start, .slice A3 a.accept.length c3, .slice A4 a.accept.length c4, .int .i64 y, .slice A5 g.vals.length c5, .map (some wA.heap.size)] 87)) := (Below.refl _ _).alloc (Nat.le_refl _) _
   have hbY := below_trans hbDA (below_trans hbM hbX)
   have hbZ := below_trans hbM hbX
   have hsw := hbD.size
   have hszz := hbZ.size
   go_ret
   exact ⟨_, wA.heap.size, rfl, Nat.le_trans hsw hsA, ⟨w.heap.size, _, wA.heap.size, A1, A2, A3, A4, A5, c1, c2, c3, c4, c5, Blk.new _ _ _ _ (by simp), HGV.out.below hbY (Nat.le_refl _), HAV.out.below hbY (Nat.le_refl _), HSSE.out.below hbZ (Nat.le_refl _), Nat.le_trans hsw hsA, .inl (Nat.le_refl _), hszz, hbY.size, by simp⟩, HMM.out.keep hbX, hbY⟩
 · go_simp
   have hbM : Below W0.drew.heap.size W0.drew (W0.drew.alloc (.map #[] 0)) := (Below.refl _ _).alloc (Nat.le_refl _) _
   have HMM := Lib.hid (Mem.new g a y W0.drew)
   have hbDM := below_trans hbD hbM
   refine hK.out _ _ (kA5 _ hS) (fun _ _ => ?_)
   try simp only [tA,tB,tC,Act.put,tE,tF,tG]
   clear hK K inv hS; rename_i hS inv
   refine F_o1 4 inv ?_; intro K hK
   try simp only [tA,tB,tC]
   go_simp
   refine (HAR.out _ hbDM).mono ?_
   rintro en wA ⟨vA, rfl, hsse, hbA⟩
   obtain ⟨A5, c5, hv5, hl5, hm5⟩ := hsse.shape
   have hlen5 : ((List.range g.vals.length).map fun (x : Nat) => arcsOf g (x : Int)).length = g.vals.length := by simp
   rw [hlen5] at hv5 hl5
   subst hv5
   have HSSE := Lib.hid hsse
   have hsA := hbA.size
   have hsw := hbD.size
   have hbDA := below_trans hbDM hbA
   clear hsse hlen5
   refine hK.out _ _ (kB5 hbA hS) (fun _ _ => ?_)
   try simp only [tA,tB,tC,Act.put,tE,tF,tG]
   clear hK K inv hS; rename_i hS inv
   refine F_tk 6 inv ?_
   try simp only [tA,tB,tC,Act.put,tE,tF,tG]
   clear inv; intro inv
   refine F_tail (i := 7) (by kernel_rfl) rfl rfl (by omega) (fun K hK => ?_)
   try simp only [tA,tB,tC]
   go_simp
   refine hK.out _ _ ?_
   try simp only [tA,tB,tC,Act.put,tE,tF,tG]
   clear hK K
   try clear inv hS
   refine F_l1 8 ?_; intro K hK
   go_simp
   refine hK _ _ ?_
   clear hK K
   go_wp2_with fail
   have hbX : Below wA.heap.size wA (wA.alloc (.cells #[.slice A1 g.vals.length c1, .slice A2 g.edges.length c2, .int .i64 a.start, .slice A3 a.accept.length c3, .slice A4 a.accept.length c4, .int .i64 y, .slice A5 g.vals.length c5, .map (some W0.heap.size)] 87)) := (Below.refl _ _).alloc (Nat.le_refl _) _
   have hbY := below_trans hbDA hbX
   have hszz := hbX.size
   have hwM : W0.heap.size < wA.heap.size := by simp at hsA; omega
   go_ret
   exact ⟨_, W0.heap.size, rfl, hsw, ⟨w.heap.size, W0.heap.size + 1, wA.heap.size, A1, A2, A3, A4, A5, c1, c2, c3, c4, c5, Blk.new _ _ _ _ rfl, HGV.out.below hbY (Nat.le_refl _), HAV.out.below hbY (Nat.le_refl _), (HSSE.out.mono (by simp) (Nat.le_refl _)).below hbX (Nat.le_refl _), hsw, .inr (Nat.lt_succ_self _), hszz, hbY.size, by omega⟩, (HMM.out.keep hbA).keep hbX, hbY⟩
theorem start_any (g : Gr) (a : Au) (y : Int) (ha : auOk a = true) (bC bM x lf : Nat) (w : World) (hc : Ctr g a y w bC bM) (hx : x <= 1000000) (hlf : lf <= 60) :
 Calls Tryz.prog 39 #[.pointer (some ⟨bC, 0, none⟩), .int .i64 (x : Int), .int .i64 (lf : Int)] w fun e w' => e = .returned (.agg #[.int .i64 (x : Int), .int .i64 (bit a.start.toNat : Nat), .int .i64 (lf : Int)]) /\ Below w.heap.size w w' := by
 obtain ⟨B, lo, hi, A1, A2, A3, A4, A5, c1, c2, c3, c4, c5, hbk, -⟩ := hc
 obtain ⟨⟨_, hn⟩, ⟨h0, h1⟩, -, -⟩ := auOk_iff.1 ha
 obtain ⟨s, hs⟩ := Int.eq_ofNat_of_zero_le h0
 have z2 : w.cell? ⟨bC, 2, none⟩ = some (.int .i64 (s : Int)) := by rw [<- hs]; exact hbk.cell 2
 have lC := hbk.lt
 have lC1 : bC < w.heap.size + 1 := by omega
 rw [hs, Int.toNat_natCast]
 have e1 := shl_bit (s := s) (by omega)
 have e2 : wrap64 (2 ^ min s 64) = (bit s : Int) := by rw [Nat.min_eq_left (by omega)]; exact e1
 clear hbk h0 h1 hs ha
 go_enter Tryz.func39, Tryz.ntmps39
 go_wp2_with fail
 refine bodyPost_ret (v := .agg #[.int .i64 (x : Int), .int .i64 (bit s : Int), .int .i64 (lf : Int)]) (by simp [results, Tryz.results39, go_sem, e2]) rfl ⟨rfl, ?_⟩
 repeat (first | exact Below.refl _ _ | refine Below.setCell ?_ (by simp <;> omega) _ | refine Below.alloc ?_ (by simp <;> omega) _)
theorem leftN_succ {α : Type} {k : α -> Nat} {l : List α} {i n : Nat} {p : α} (h : l[i]? = some p) : leftN k (l.take (i + 1)) n = leftN k (l.take i) n - k p := foldl_take h n
theorem leftN_le {α : Type} (k : α -> Nat) : ∀ (l : List α) (n : Nat), leftN k l n <= n
 | [], n => Nat.le_refl _
 | p :: l, n => Nat.le_trans (leftN_le k l (n - k p)) (Nat.sub_le _ _)
/-- the first that is not passed over is the one picked -/
theorem pick_here {α : Type} {k : α -> Nat} {l : List α} {i n : Nat} {p : α} (h : l[i]? = some p) (hno : ∀ j q, j < i -> l[j]? = some q -> ¬ leftN k (l.take j) n < k q) (hy : leftN k (l.take i) n < k p) : pick k l n = some (p, leftN k (l.take i) n) := by
 have hi := (List.getElem?_eq_some_iff.1 h).1
 rw [pick_skip hno (by omega), List.drop_eq_getElem_cons hi, (List.getElem?_eq_some_iff.1 h).2, pick, if_pos hy]
theorem pick_end {α : Type} {k : α -> Nat} {l : List α} {n : Nat} (hno : ∀ j q, j < l.length -> l[j]? = some q -> ¬ leftN k (l.take j) n < k q) : pick k l n = none := by
 rw [pick_skip hno (Nat.le_refl _), List.drop_length]; rfl
theorem Blk.set3 {w : World} {g : Nat} {t : TypeId} {c0 c1 c2 : Value} (h : Blk w g t #[c0, c1, c2]) (d0 d1 d2 : Value) : Blk (((w.setCell ⟨g, 0, none⟩ d0).setCell ⟨g, 1, none⟩ d1).setCell ⟨g, 2, none⟩ d2) g t #[d0, d1, d2] := by
 have h2 := ((h.set_ 0 d0).set_ 1 d1).set_ 2 d2
 simpa using h2
theorem only_set3 {lo hi : Nat} {a w : World} (h : Only lo hi a w) {g : Nat} (hg : a.heap.size <= g) (d0 d1 d2 : Value) : Only lo hi a (((w.setCell ⟨g, 0, none⟩ d0).setCell ⟨g, 1, none⟩ d1).setCell ⟨g, 2, none⟩ d2) :=
 ((h.setCell (p := ⟨g, 0, none⟩) (.inr hg) d0).setCell (p := ⟨g, 1, none⟩) (.inr hg) d1).setCell (p := ⟨g, 2, none⟩) (.inr hg) d2
theorem set3_block (w : World) (g : Nat) (d0 d1 d2 : Value) (b : Nat) (hb : b ≠ g) : (((w.setCell ⟨g, 0, none⟩ d0).setCell ⟨g, 1, none⟩ d1).setCell ⟨g, 2, none⟩ d2).heap[b]? = w.heap[b]? := by
 rw [Below.heap_setCell _ _ _ _ hb, Below.heap_setCell _ _ _ _ hb, Below.heap_setCell _ _ _ _ hb]
theorem gBlockN {w w' : World} {row : Option Nat} (hg : w.grownBy w' row) {b : Nat} (hb : b < w.heap.size) (hne : row ≠ some b) : w'.heap[b]? = w.heap[b]? := hg.block b hb (fun e => hne e.symm)
theorem only_below {lo hi B : Nat} {a b c : World} (h : Only lo hi a b) (hb : Below B b c) (hB : a.heap.size <= B) : Only lo hi a c :=
 ⟨hb.os.trans h.os, hb.tape.trans h.tape, hb.output.trans h.output, Nat.le_trans h.size hb.size, fun n hn ho => (hb.block n (by omega)).trans (h.block n hn ho)⟩
theorem Mem.at_ {g : Gr} {a : Au} {y : Int} {w w' : World} {bM : Nat} {M : List Plc} (h : Mem g a y w bM M) (hb : w'.heap[bM]? = w.heap[bM]?) : Mem g a y w' bM M := by
 obtain ⟨D, h1, h2⟩ := h
 exact ⟨D, ownsMap_at h1 hb, h2⟩
theorem elStepN : ElemOk Tryz.prog 34 74 (.agg #[.int .i64 0, .bool false]) 2 16 := ⟨Tryz.underlying34, by kernel_rfl, rfl, by omega⟩
set_option maxHeartbeats 8000000 in
set_option maxRecDepth 100000 in
theorem nth_any (g : Gr) (a : Au) (y : Int) (hgo : grOk g = true) (ha : auOk a = true) (bC bM lf x s n : Nat) (M : List Plc) (w : World) (hc : Ctr g a y w bC bM) (hm : Mem g a y w bM M) (hx : x < g.vals.length) (hs : s < 2 ^ a.accept.length) (hlf : lf <= 60) (hn : n < cw g a y lf x s) :
 Calls Tryz.prog 41 #[.pointer (some ⟨bC, 0, none⟩), .agg #[.int .i64 (x : Int), .int .i64 (s : Int), .int .i64 (lf : Int)], .int .i64 (n : Int)] w fun e w' => ∃ v', e = .returned v' /\ Own w.heap.size w'.heap.size w' 74 cSt 2 v' (nthL g a y lf x s n) /\ Only bM (bM + 1) w w' /\ ∃ M', Mem g a y w' bM M' := by
 have HM := Lib.hid hm
 have HCT := Lib.hid hc
 have hbMw := hm.lt
 obtain ⟨RR, hRR⟩ : ∃ RR, RR = nthL g a y lf x s n := ⟨_, rfl⟩
 rw [<- hRR]
 have HRR := Lib.hid hRR
 have HN := Lib.hid hn
 have HGO := Lib.hid hgo
 have HA := Lib.hid ha
 have HS := Lib.hid hs
 have hnle : n <= 1000000 := by have := cw_le g a y lf x s; omega
 have hn5 := (grOk_iff.1 hgo).n5
 clear hm hc hRR hn hgo ha hs
 go_enter Tryz.func41, Tryz.ntmps41
 go_wp2_with fail
 have HB0 := Lib.hid ((Blk.new w 62 #[.int .i64 (x : Int), .int .i64 (s : Int), .int .i64 (lf : Int)] w.heap.size rfl).alloc (.cells #[] 74))
 have hbl0 : Below w.heap.size w ((w.alloc (.cells #[.int .i64 (x : Int), .int .i64 (s : Int), .int .i64 (lf : Int)] 62)).alloc (.cells #[] 74)) := ((Below.refl _ _).alloc (Nat.le_refl _) _).alloc (by simp) _
 have HO0 := Lib.hid (Only.of_below hbl0 bM (bM + 1))
 have HM0 := Lib.hid (HM.out.keep hbl0)
 have HR0 := Lib.hid (show ((w.alloc (.cells #[.int .i64 (x : Int), .int .i64 (s : Int), .int .i64 (lf : Int)] 62)).alloc (.cells #[] 74)).ownsRow (w.heap.size + 1) 74 2 (.slice (some ⟨w.heap.size + 1, 0, none⟩) 0 0) ([] : List St).length (([] : List St).flatMap cSt) from by
  have h := World.ownsRow_lit (base := w.heap.size + 1) (e := 74) (size := 2) (w.alloc (.cells #[.int .i64 (x : Int), .int .i64 (s : Int), .int .i64 (lf : Int)] 62)) #[] 0 (by simp) (by decide) rfl
  simpa using h)
 clear hbl0
 go_loopg [2, 7] lf (fun gk nn oo wr => ∃ (x' s' n' : Nat) (O : List St) (M' : List Plc), nn = .int .i64 (n' : Int) /\ gk <= lf /\ x' < g.vals.length /\ s' < 2 ^ a.accept.length /\ n' < cw g a y gk x' s' /\ O ++ nthL g a y gk x' s' n' = RR /\ O.length + gk = lf /\
  Blk wr w.heap.size 62 #[.int .i64 (x' : Int), .int .i64 (s' : Int), .int .i64 (gk : Int)] /\ wr.ownsRow (w.heap.size + 1) 74 2 oo O.length (O.flatMap cSt) /\ Only bM (bM + 1) w wr /\ Mem g a y wr bM M')
 case atStart => exact ⟨x, s, n, [], M, rfl, Nat.le_refl _, hx, HS.out, HN.out, HRR.out.symm, by simp, HB0.out, HR0.out, HO0.out, HM0.out⟩
 case round =>
  clear HB0 HO0 HM0 HR0
  obtain ⟨x', s', n', O, M', rfl, hgk, hx', hs', hn', hO, hOl, hblk, hrow, hon, hmm⟩ := hrel
  have hs4 := lt12 HA.out hs'
  have e0 : wr.cell? ⟨w.heap.size, 0, none⟩ = some (.int .i64 (x' : Int)) := hblk.cell 0
  have e1 : wr.cell? ⟨w.heap.size, 1, none⟩ = some (.int .i64 (s' : Int)) := hblk.cell 1
  have e2 : wr.cell? ⟨w.heap.size, 2, none⟩ = some (.int .i64 (gk : Int)) := hblk.cell 2
  have lE := hblk.lt
  have HBK := Lib.hid hblk
  have HROW := Lib.hid hrow
  have HON := Lib.hid hon
  have HMM := Lib.hid hmm
  have HO := Lib.hid hO
  have hnle' : n' <= 1000000 := by have := cw_le g a y gk x' s'; omega
  by_cases h0 : gk = 0
  · subst h0
    have hOe : O = RR := by rw [<- hO]; simp [nthL]
    have hown := Own.of_row (xs := O) hrow rfl rfl
    obtain ⟨A9, n9, c9, rfl⟩ := hown.shape
    rw [hOe] at hown
    have HOW := Lib.hid (hown.mono (lo' := w.heap.size) (by omega) (Nat.le_refl _))
    clear hblk hrow hon hmm hO hn' hOl hOe hown
    go_wp2_with fail
    go_ret
    exact ⟨_, rfl, HOW.out, HON.out, _, HMM.out⟩
  · obtain ⟨f, hf⟩ : ∃ f, gk = f + 1 := ⟨gk - 1, by omega⟩
    have hpick := pick_cw (show n' < cw g a y (f + 1) x' s' by rw [<- hf]; exact hn')
    have HNX := Lib.hid (fun (l : Nat) (t sid : Int) (sinv : Bool) (W : World) (hW : Ctr g a y W bC bM) (hl : l < 9) => next_any g a y HGO.out HA.out bC bM x' s' f l t sid sinv W hW hx' hs' (by omega) hl)
    rw [<- hf] at HNX
    have HNS := Lib.hid (fun n'' p (h : pick (cwAt g a y f x' s') (arcsOf g (x' : Int)) n' = some (p, n'')) => nthL_succ (y := y) h)
    rw [<- hf] at HNS
    have hfl : f < gk := by omega
    have hgp : (0 : Int) < (gk : Int) := by omega
    have hgn : 0 < gk := by omega
    have hctr := HCT.out.only hon
    have HC1 := Lib.hid hctr
    obtain ⟨B, lo, hi, A1, A2, A3, A4, A5, c1, c2, c3, c4, c5, hbk, hgv, hav, hlv, h5, h6, h7, h8, h9⟩ := hctr
    have z6 : wr.cell? ⟨bC, 6, none⟩ = some (.slice A5 g.vals.length c5) := hbk.cell 6
    have lC := hbk.lt
    have hA5 : ∃ b5 o5, A5 = some ⟨b5, o5, none⟩ /\ b5 < wr.heap.size /\ ∃ A7 c7, wr.cell? ⟨b5, o5 + x', none⟩ = some (.slice A7 (arcsOf g (x' : Int)).length c7) /\ (arcsOf g (x' : Int)).length <= c7 /\ c7 <= 9223372036854775807 /\ SlI lo hi wr cA 4 (.slice A7 (arcsOf g (x' : Int)).length c7) (arcsOf g (x' : Int)) := by
     obtain ⟨b5, o5, A7, c7, q1, q2, q3, q4, q5, q6, q7, -⟩ := hlv.row h7 (i := x') (xs := arcsOf g (x' : Int)) (by simp [hx'])
     exact ⟨b5, o5, q1, by omega, A7, c7, q4, q5, q6, q7⟩
    obtain ⟨b5, o5, rfl, hb5, A7, c7, d5, hl7, hm7, hI7⟩ := hA5
    have hal := arcs_len (grOk_iff.1 HGO.out) (x' : Int)
    have hxx : (x' : Int) < (g.vals.length : Int) := by omega
    have HI7 := Lib.hid hI7
    have HP := Lib.hid hpick
    have hgk60 : gk <= 60 := by omega
    have hol : O.length <= 60 := by omega
    have HF := Lib.hid hf
    have hrlt := hrow.lt
    have HRL := Lib.hid hrlt
    obtain ⟨wo, hwo⟩ : ∃ wo : World, wo = wr := ⟨_, rfl⟩
    rw [<- hwo] at HBK HROW HON HMM HC1 HI7 HRL e0 e1 e2 lE z6 lC hb5 d5 h7 ⊢
    obtain ⟨vO, rfl⟩ : ∃ vO, vO = u7 := ⟨_, rfl⟩
    clear hwo hbk hgv hav hlv h8 hpick hblk hrow hon hmm hO hn' hI7 hf hrlt h0
    go_upto_region 3 with fail
    refine wp_region_ext_lit (by kernel_rfl) (by kernel_rfl) ?_
    repeat (go_big_quiet_step (fail))
    refine wpQuiet_nil ?_
    intro _ hw'
    obtain ⟨u2, hw''⟩ := hw'
    subst hw''
    clear d5 z6
    have hbU := ext_below wo u2
    go_wp2_with fail
    go_loopw [25, 2, 7] (fun ii nn oo wi => ∃ (i : Nat) (M2 : List Plc), i <= (arcsOf g (x' : Int)).length /\ ii = .int .i64 (i : Int) /\ oo = vO /\ nn = .int .i64 (leftN (cwAt g a y f x' s') ((arcsOf g (x' : Int)).take i) n' : Nat) /\ (∀ j q, j < i -> (arcsOf g (x' : Int))[j]? = some q -> ¬ leftN (cwAt g a y f x' s') ((arcsOf g (x' : Int)).take j) n' < cwAt g a y f x' s' q) /\ Only bM (bM + 1) wo wi /\ Mem g a y wi bM M2) (fun ii _ _ _ => (arcsOf g (x' : Int)).length - (intOf ii).toNat)
    case atStart => exact ⟨0, M', Nat.zero_le _, rfl, rfl, rfl, fun j q hj => by omega, Only.of_below hbU _ _, HMM.out.keep hbU⟩
    case round =>
     obtain ⟨i, M2, hi, rfl, hvo, rfl, hno, hon, hmm⟩ := hrel
     subst hvo
     by_cases hlt : i < (arcsOf g (x' : Int)).length
     · have hyi : (arcsOf g (x' : Int))[i]? = some (arcsOf g (x' : Int))[i] := List.getElem?_eq_getElem hlt
       have hyr := arc_range (grOk_iff.1 HGO.out) (List.getElem_mem hlt)
       generalize (arcsOf g (x' : Int))[i] = p at hyi hyr
       obtain ⟨⟨sid, sinv⟩, l, t⟩ := p
       simp only at hyr
       obtain ⟨l, rfl⟩ := Int.eq_ofNat_of_zero_le hyr.1.1
       obtain ⟨t, rfl⟩ := Int.eq_ofNat_of_zero_le hyr.2.1
       obtain ⟨b7, o7, rfl, hb7l, hb7, k0, k1, k2, k3⟩ := HI7.out.arc hyi
       simp only at k0 k1 k2 k3
       have hb7M : b7 < bM ∨ bM + 1 <= b7 := by omega
       have hb7o : b7 < wo.heap.size := by omega
       have k0 := ocell hon k0 hb7o hb7M
       have k1 := ocell hon k1 hb7o hb7M
       have k2 := ocell hon k2 hb7o hb7M
       have k3 := ocell hon k3 hb7o hb7M
       have hsz := hon.size
       have e0 := ocell hon e0 lE (.inr (by omega))
       have e1 := ocell hon e1 lE (.inr (by omega))
       have e2 := ocell hon e2 lE (.inr (by omega))
       have hb7w : b7 < wr.heap.size := by omega
       have lEr : w.heap.size < wr.heap.size := by omega
       have hAF := aft_lt HA.out s' (valAt g x') l
       have hKA : cwAt g a y f x' s' ((sid, sinv), (l : Int), (t : Int)) = cw g a y f t (aft a s' (valAt g x') l) := by rw [cwAt]; simp
       have hPH := fun h => pick_here hyi hno h
       have hLS := leftN_succ (k := cwAt g a y f x' s') (n := n') hyi
       have hLL := leftN_le (cwAt g a y f x' s') ((arcsOf g (x' : Int)).take i) n'
       rw [hKA] at hPH hLS
       have hno2 : ¬ leftN (cwAt g a y f x' s') ((arcsOf g (x' : Int)).take i) n' < cw g a y f t (aft a s' (valAt g x') l) -> ∀ j q, j < i + 1 -> (arcsOf g (x' : Int))[j]? = some q -> ¬ leftN (cwAt g a y f x' s') ((arcsOf g (x' : Int)).take j) n' < cwAt g a y f x' s' q := fun h j q hj hq => by
        rcases Nat.lt_or_ge j i with h1 | h1
        · exact hno j q h1 hq
        · obtain rfl : j = i := by omega
          rw [hyi] at hq
          injection hq with hq
          rw [<- hq, hKA]; exact h
       have hNSS := fun n'' h => HNS.out n'' ((sid, sinv), (l : Int), (t : Int)) h
       simp only [Int.toNat_natCast] at hNSS
       have hcl2 := cw_le g a y f t (aft a s' (valAt g x') l)
       have HNC := Lib.hid (fun (W : World) (hW : Ctr g a y W bC bM) => HNX.out l (t : Int) sid sinv W hW (by omega))
       have HRC := Lib.hid (fun (W : World) (h1 : Ctr g a y W bC bM) (h2 : Mem g a y W bM M2) => count_any g a y HGO.out HA.out bC bM f t (aft a s' (valAt g x') l) M2 W h1 h2 (by omega) hAF (by omega))
       obtain ⟨CC, hCC⟩ : ∃ CC, CC = cw g a y f t (aft a s' (valAt g x') l) := ⟨_, rfl⟩
       rw [<- hCC] at hPH hLS hno2 hcl2 HRC
       have HCC := Lib.hid hCC
       generalize aft a s' (valAt g x') l = AF at *
       have hii : (i : Int) < ((arcsOf g (x' : Int)).length : Int) := by omega
       have HLS := Lib.hid hLS
       have HPH := Lib.hid hPH
       have HN2 := Lib.hid hno2
       have HNSS := Lib.hid hNSS
       have HON2 := Lib.hid hon
       have HMM2 := Lib.hid hmm
       have hAF4 : AF < 4096 := lt12 HA.out hAF
       have htl : t < g.vals.length := by omega
       have HAF := Lib.hid hAF
       clear hyi hno hLS hPH hno2 hNSS hCC hon hmm hKA hAF
       generalize leftN (cwAt g a y f x' s') ((arcsOf g (x' : Int)).take i) n' = m1 at *
       have hbE : Below wr.heap.size wr (wr.alloc (.cells #[.int .i64 sid, .bool sinv, .int .i64 (l : Int), .int .i64 (t : Int)] 89)) := (Below.refl _ _).alloc (Nat.le_refl _) _
       have a0 : (wr.alloc (.cells #[.int .i64 sid, .bool sinv, .int .i64 (l : Int), .int .i64 (t : Int)] 89)).cell? ⟨wr.heap.size, 0, none⟩ = some (.int .i64 sid) := by simp
       have a1 : (wr.alloc (.cells #[.int .i64 sid, .bool sinv, .int .i64 (l : Int), .int .i64 (t : Int)] 89)).cell? ⟨wr.heap.size, 1, none⟩ = some (.bool sinv) := by simp
       go_wp2_with fail
       refine (HNC.out _ ((HC1.out.only HON2.out).keep hbE)).mono ?_
       rintro en w3 ⟨rfl, hb3⟩
       have hbQ : Below w3.heap.size w3 (w3.alloc (.cells #[.int .i64 (t : Int), .int .i64 (AF : Int), .int .i64 (f : Int)] 62)) := (Below.refl _ _).alloc (Nat.le_refl _) _
       have hbEQ := below_trans hbE (below_trans hb3 hbQ)
       have hb3Q := below_trans hb3 hbQ
       have q0 : (w3.alloc (.cells #[.int .i64 (t : Int), .int .i64 (AF : Int), .int .i64 (f : Int)] 62)).cell? ⟨w3.heap.size, 0, none⟩ = some (.int .i64 (t : Int)) := by simp
       have q1 : (w3.alloc (.cells #[.int .i64 (t : Int), .int .i64 (AF : Int), .int .i64 (f : Int)] 62)).cell? ⟨w3.heap.size, 1, none⟩ = some (.int .i64 (AF : Int)) := by simp
       have q2 : (w3.alloc (.cells #[.int .i64 (t : Int), .int .i64 (AF : Int), .int .i64 (f : Int)] 62)).cell? ⟨w3.heap.size, 2, none⟩ = some (.int .i64 (f : Int)) := by simp
       have a0 := kcell hb3Q a0
       have a1 := kcell hb3Q a1
       have hsE : wr.heap.size < w3.heap.size := by have := hb3.size; simp at this; omega
       have HC3 := Lib.hid ((HC1.out.only HON2.out).keep hbEQ)
       have HM3 := Lib.hid (HMM2.out.keep hbEQ)
       have HO3 := Lib.hid (HON2.out.trans (Only.of_below hbEQ bM (bM + 1)))
       have lQ : w3.heap.size < (w3.alloc (.cells #[.int .i64 (t : Int), .int .i64 (AF : Int), .int .i64 (f : Int)] 62)).heap.size := by simp
       clear hb3 hbQ hbEQ hb3Q hbE k0 k1 k2 k3 e0 e1 e2
       go_wp2_with fail
       refine (HRC.out _ HC3.out HM3.out).mono ?_
       rintro en w4 ⟨rfl, hon4, M4, hm4, hmo4⟩
       have q0 := ocell hon4 q0 lQ (.inr (by omega))
       have q1 := ocell hon4 q1 lQ (.inr (by omega))
       have q2 := ocell hon4 q2 lQ (.inr (by omega))
       have a0 := ocell hon4 a0 (by omega) (.inr (by omega))
       have a1 := ocell hon4 a1 (by omega) (.inr (by omega))
       have hs4w := hon4.size
       have HO4 := Lib.hid (HO3.out.trans hon4)
       have HM4 := Lib.hid hm4
       clear hon4 hm4 hmo4
       by_cases hpk : m1 < CC
       · have hpk1 : (m1 : Int) < (CC : Int) := by omega
         have HPK := Lib.hid (HPH.out hpk)
         have HNR := Lib.hid (HNSS.out m1 (HPH.out hpk))
         have honA := HO4.out
         have hrow4 := ownsRow_block HROW.out (fun g hg => honA.block g (HRL.out g hg).2 (.inr (by have := (HRL.out g hg).1; omega)))
         have hbk4 := HBK.out.only honA (.inr (by omega))
         have HR4 := Lib.hid hrow4
         have HBK4 := Lib.hid hbk4
         have hs44 : wo.heap.size <= w4.heap.size := by omega
         have lQ4 : w3.heap.size < w4.heap.size := by omega
         clear HN2 HLS HPH HNSS hrow4 hbk4 honA
         go_upto_region 10 with (at_builtin; (refine wpList_append1 cSt elStepN rfl _ _ rfl (w.heap.size + 1) _ O (sid, sinv) _ 1 _ (by rfl) HR4.out (by rfl) rfl rfl rfl (cSt_one _) (by omega) (by omega) (by omega) ?_); intro v8 w8 hrow8 hb8 hat8 hgr8)
         have hs8 := hb8.size
         have hne : ∀ b, wo.heap.size <= b -> u7.ownBlock ≠ some b := fun b hb e => by have := (HRL.out b e).2; omega
         have hneM : u7.ownBlock ≠ some bM := fun e => by have := (HRL.out bM e).1; omega
         have g8 : ∀ b, b < w4.heap.size -> u7.ownBlock ≠ some b -> w8.heap[b]? = w4.heap[b]? := fun b hb hn => (gBlockN hgr8 (by simp; omega) hn).trans (Below.heap_alloc _ _ _ hb)
         have q0 : w8.cell? ⟨w3.heap.size, 0, none⟩ = some (.int .i64 (t : Int)) := (World.cell?_of_block (a := ⟨w3.heap.size, 0, none⟩) (g8 _ lQ4 (hne w3.heap.size (by omega)))).trans q0
         have q1 : w8.cell? ⟨w3.heap.size, 1, none⟩ = some (.int .i64 (AF : Int)) := (World.cell?_of_block (a := ⟨w3.heap.size, 1, none⟩) (g8 _ lQ4 (hne w3.heap.size (by omega)))).trans q1
         have q2 : w8.cell? ⟨w3.heap.size, 2, none⟩ = some (.int .i64 (f : Int)) := (World.cell?_of_block (a := ⟨w3.heap.size, 2, none⟩) (g8 _ lQ4 (hne w3.heap.size (by omega)))).trans q2
         have hbk8 := HBK4.out.below hb8 (Nat.lt_succ_self _)
         have z0 : w8.cell? ⟨w.heap.size, 0, none⟩ = some (.int .i64 (x' : Int)) := hbk8.cell 0
         have z1 : w8.cell? ⟨w.heap.size, 1, none⟩ = some (.int .i64 (s' : Int)) := hbk8.cell 1
         have z2 : w8.cell? ⟨w.heap.size, 2, none⟩ = some (.int .i64 (gk : Int)) := hbk8.cell 2
         have f0 := hbk8.frozen 0
         have f1 := hbk8.frozen 1
         have f2 := hbk8.frozen 2
         have l8 := hbk8.lt
         have lbM4 := HM4.out.lt
         have hmm8 := HM4.out.at_ (g8 bM lbM4 hneM)
         have hon8 := only_below (HON.out.trans HO4.out) hb8 (show w.heap.size <= w.heap.size + 1 by omega)
         have HB8 := Lib.hid (hbk8.set3 (.int .i64 (t : Int)) (.int .i64 (AF : Int)) (.int .i64 (f : Int)))
         have HR8 := Lib.hid (ownsRow_block hrow8 (fun g hg => set3_block w8 w.heap.size (.int .i64 (t : Int)) (.int .i64 (AF : Int)) (.int .i64 (f : Int)) g (by have := (hrow8.lt g hg).1; omega)))
         have HM8 := Lib.hid (hmm8.at_ (set3_block w8 w.heap.size (.int .i64 (t : Int)) (.int .i64 (AF : Int)) (.int .i64 (f : Int)) bM (by omega)))
         have HO8 := Lib.hid (only_set3 hon8 (Nat.le_refl _) (.int .i64 (t : Int)) (.int .i64 (AF : Int)) (.int .i64 (f : Int)))
         clear hbk8 hrow8 hmm8 hon8 hb8 hat8 hgr8 g8 hne hneM a0 a1
         go_wp2_with fail
         go_roundg f
         case measure => omega
         case rel => exact ⟨t, AF, m1, O ++ [(sid, sinv)], M4, rfl, by omega, htl, HAF.out, by rw [<- HCC.out]; exact hpk, by rw [<- HO.out, HNR.out, List.append_assoc]; rfl, by have := HF.out; simp; omega, HB8.out, HR8.out, HO8.out, HM8.out⟩
       · have hpk1 : ¬ (m1 : Int) < (CC : Int) := by omega
         have hsub : IntKind.i64.wrap ((m1 : Int) - (CC : Int)) = ((m1 - CC : Nat) : Int) := by rw [IntWalk.i64_in _ (by omega)]; omega
         have hsub2 : (m1 : Int) - (CC : Int) = ((m1 - CC : Nat) : Int) := by omega
         have HNO := Lib.hid (HN2.out hpk)
         clear HPH HNSS HN2
         go_wp2_with fail
         go_roundw
         case rel => exact ⟨i + 1, M4, by omega, by go_num, rfl, by rw [HLS.out], HNO.out, HO4.out, HM4.out⟩
         case measure => simp [intOf]; omega
     · obtain rfl : i = (arcsOf g (x' : Int)).length := by omega
       obtain ⟨p, n'', h1, -⟩ := HP.out
       rw [pick_end hno] at h1
       cases h1
end Go.Proofs.YtcnenpjaoalmeaaGreat
