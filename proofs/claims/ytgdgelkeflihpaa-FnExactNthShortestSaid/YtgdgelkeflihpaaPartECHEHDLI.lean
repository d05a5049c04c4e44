/- Parts of the proof, joined into one text: NthM, LayM, LayV, LayF, LayR, Srw. -/
import Derived.Test.YtgdgelkeflihpaaPartCLIOLNGG
import Derived.Test.YtgdgelkeflihpaaPartJCLCPPHB
import Derived.Test.YtgdgelkeflihpaaPartAAOKINFK
import Derived.Test.YtgdgelkeflihpaaPartGPKKMHKD
/- The walks by their numbers, plainly: the layers' rows tell the same arcs as the recursion, and number n is picked alike. -/
namespace Go.Proofs.Ytgdgelkeflihpaa
set_option linter.unusedVariables false
set_option linter.unusedSimpArgs false
open Go.ChangeShapes Go.WideShapes Go.ChangeAt Go.RowKit

/-! ### A layer's row beside the arcs of its node -/
inductive RowR (g : Gr) (a : Au) (x s : Nat) (N : List Key) : List Arc → List (St × Nat) → Prop
  | nil : RowR g a x s N [] []
  | skip {p : Arc} {l : List Arc} {T : List (St × Nat)} : aft a s (valAt g x) p.2.1.toNat = 0 → RowR g a x s N l T → RowR g a x s N (p :: l) T
  | take {p : Arc} {l : List Arc} {T : List (St × Nat)} {i : Nat} : aft a s (valAt g x) p.2.1.toNat ≠ 0 → N[i]? = some (p.2.2.toNat, aft a s (valAt g x) p.2.1.toNat) → RowR g a x s N l T → RowR g a x s N (p :: l) ((p.1, i) :: T)
theorem RowR.more {g : Gr} {a : Au} {x s : Nat} {N : List Key} {l : List Arc} {T : List (St × Nat)} (h : RowR g a x s N l T) (N3 : List Key) : RowR g a x s (N ++ N3) l T := by
  induction h with
  | nil => exact .nil
  | skip h1 _ ih => exact .skip h1 ih
  | take h1 h2 _ ih => exact .take h1 (by rw [List.getElem?_append_left (List.getElem?_eq_some_iff.1 h2).1]; exact h2) ih
theorem RowR.app {g : Gr} {a : Au} {x s : Nat} {N : List Key} {l l' : List Arc} {T T' : List (St × Nat)} (h : RowR g a x s N l T) (h' : RowR g a x s N l' T') : RowR g a x s N (l ++ l') (T ++ T') := by
  induction h with
  | nil => exact h'
  | skip h1 _ ih => exact .skip h1 ih
  | take h1 h2 _ ih => exact .take h1 h2 ih
/-- the fold of a row's making, told at each prefix of the arcs -/
def rowTk (g : Gr) (a : Au) (N : List Key) (x s k : Nat) : LSt := ((arcsOf g (x : Int)).take k).foldl (arcL g a x s) (N, [])
theorem rowTk_succ {g : Gr} {a : Au} {N : List Key} {x s k : Nat} {p : Arc} (h : (arcsOf g (x : Int))[k]? = some p) : rowTk g a N x s (k + 1) = arcL g a x s (rowTk g a N x s k) p := foldl_take h _
theorem rowTk_all (g : Gr) (a : Au) (N : List Key) (x s : Nat) : rowTk g a N x s (arcsOf g (x : Int)).length = rowL g a N x s := by rw [rowTk, List.take_length]; rfl
theorem arcs_row {g : Gr} {a : Au} {x s : Nat} : ∀ (l : List Arc) (N : List Key) (T : List (St × Nat)),
    ∃ N2 T2, l.foldl (arcL g a x s) (N, T) = (N ++ N2, T ++ T2) ∧ RowR g a x s (N ++ N2) l T2
  | [], N, T => ⟨[], [], by simp, .nil⟩
  | p :: l, N, T => by
    by_cases h0 : aft a s (valAt g x) p.2.1.toNat = 0
    · obtain ⟨N2, T2, h1, h2⟩ := arcs_row (g := g) (a := a) (x := x) (s := s) l N T
      exact ⟨N2, T2, by rw [List.foldl_cons, arcL, if_pos h0, h1], .skip h0 h2⟩
    · cases hf : findK N (p.2.2.toNat, aft a s (valAt g x) p.2.1.toNat) with
      | some i =>
        obtain ⟨N2, T2, h1, h2⟩ := arcs_row (g := g) (a := a) (x := x) (s := s) l N (T ++ [(p.1, i)])
        have hk := findK_some hf
        refine ⟨N2, (p.1, i) :: T2, by rw [List.foldl_cons, arcL, if_neg h0]; simp only [hf]; rw [h1, List.append_assoc]; rfl, .take h0 ?_ h2⟩
        rw [List.getElem?_append_left (List.getElem?_eq_some_iff.1 hk).1]; exact hk
      | none =>
        obtain ⟨N2, T2, h1, h2⟩ := arcs_row (g := g) (a := a) (x := x) (s := s) l (N ++ [(p.2.2.toNat, aft a s (valAt g x) p.2.1.toNat)]) (T ++ [(p.1, N.length)])
        refine ⟨(p.2.2.toNat, aft a s (valAt g x) p.2.1.toNat) :: N2, (p.1, N.length) :: T2, by rw [List.foldl_cons, arcL, if_neg h0]; simp only [hf]; rw [h1, List.append_assoc, List.append_assoc]; rfl, .take h0 ?_ ?_⟩
        · rw [List.getElem?_append_right (Nat.le_refl _), Nat.sub_self]; rfl
        · simpa using h2
theorem rowL_row (g : Gr) (a : Au) (N : List Key) (x s : Nat) : ∃ N2, (rowL g a N x s).1 = N ++ N2 ∧ RowR g a x s (N ++ N2) (arcsOf g (x : Int)) (rowL g a N x s).2 := by
  obtain ⟨N2, T2, h1, h2⟩ := arcs_row (g := g) (a := a) (x := x) (s := s) (arcsOf g (x : Int)) N []
  rw [List.nil_append] at h1
  exact ⟨N2, by rw [rowL, h1], by rw [rowL, h1]; exact h2⟩
/-- the layer, told at each prefix of its rows -/
def layTo (g : Gr) (a : Au) (last : List Key) (i : Nat) : List Key × List (List (St × Nat)) :=
  (last.take i).foldl (fun st k => ((rowL g a st.1 k.1 k.2).1, st.2 ++ [(rowL g a st.1 k.1 k.2).2])) ([], [])
theorem layTo_succ {g : Gr} {a : Au} {last : List Key} {i : Nat} {k : Key} (h : last[i]? = some k) :
    layTo g a last (i + 1) = ((rowL g a (layTo g a last i).1 k.1 k.2).1, (layTo g a last i).2 ++ [(rowL g a (layTo g a last i).1 k.1 k.2).2]) := by
  rw [layTo, foldl_take h]; rfl
def layA (g : Gr) (a : Au) (last : List Key) : List Key × List (List (St × Nat)) := layTo g a last last.length
theorem layTo_row (g : Gr) (a : Au) (last : List Key) : ∀ i, i ≤ last.length → (layTo g a last i).2.length = i ∧ ∀ (j : Nat) (k : Key) (T : List (St × Nat)), last[j]? = some k → (layTo g a last i).2[j]? = some T → RowR g a k.1 k.2 (layTo g a last i).1 (arcsOf g (k.1 : Int)) T
  | 0, _ => ⟨rfl, fun j k T _ hT => by simp [layTo] at hT⟩
  | i + 1, hi => by
    obtain ⟨h1, h2⟩ := layTo_row g a last i (by omega)
    have hk : last[i]? = some last[i] := List.getElem?_eq_getElem (by omega)
    generalize last[i] = k0 at hk
    obtain ⟨N2, g1, g2⟩ := rowL_row g a (layTo g a last i).1 k0.1 k0.2
    rw [layTo_succ hk]
    refine ⟨by simp [h1], fun j k T hj hT => ?_⟩
    simp only at hT ⊢
    rcases Nat.lt_or_ge j i with hlt | hge
    · rw [List.getElem?_append_left (by omega)] at hT
      rw [g1]
      exact (h2 j k T hj hT).more N2
    · rw [List.getElem?_append_right (by omega), h1] at hT
      have hj0 : j - i = 0 := by
        have := (List.getElem?_eq_some_iff.1 hT).1
        simp at this; omega
      rw [hj0] at hT
      simp only [List.getElem?_cons_zero, Option.some.injEq] at hT
      obtain rfl : j = i := by omega
      rw [hk] at hj
      injection hj with hj
      subst hj hT
      rw [g1]
      exact g2
theorem layA_row (g : Gr) (a : Au) (last : List Key) : (layA g a last).2.length = last.length ∧ ∀ (j : Nat) (k : Key) (T : List (St × Nat)), last[j]? = some k → (layA g a last).2[j]? = some T → RowR g a k.1 k.2 (layA g a last).1 (arcsOf g (k.1 : Int)) T := layTo_row g a last _ (Nat.le_refl _)

/-! ### Counting -/
theorem RowR.cnt {g : Gr} {a : Au} {y : Int} {f x s : Nat} {N : List Key} {C : List Nat} (hC : ∀ i k, N[i]? = some k → C.getD i 0 = cw g a y f k.1 k.2) {l : List Arc} {T : List (St × Nat)} (h : RowR g a x s N l T) :
    ∀ n, n ≤ 1000000 → T.foldl (cntL C) n = l.foldl (cwStep g a (cw g a y f) x s) n := by
  induction h with
  | nil => intro n _; rfl
  | skip h1 _ ih =>
    intro n hn
    rw [List.foldl_cons, cwStep, h1, cw_none, Nat.add_zero, Nat.min_eq_right hn]
    exact ih n hn
  | take h1 h2 _ ih =>
    intro n hn
    rw [List.foldl_cons, List.foldl_cons, cntL, cwStep, hC _ _ h2]
    exact ih _ (Nat.min_le_left _ _)

/-! ### Picking -/
/-- the first of l before which fewer than n are counted: and what is left of n -/
def pick {α : Type} (k : α → Nat) : List α → Nat → Option (α × Nat)
  | [], _ => none
  | p :: l, n => if n < k p then some (p, n) else pick k l (n - k p)
def cwAt (g : Gr) (a : Au) (y : Int) (f x s : Nat) (p : Arc) : Nat := cw g a y f p.2.2.toNat (aft a s (valAt g x) p.2.1.toNat)
theorem RowR.pick {g : Gr} {a : Au} {y : Int} {f x s : Nat} {N : List Key} {C : List Nat} (hC : ∀ i k, N[i]? = some k → C.getD i 0 = cw g a y f k.1 k.2) {l : List Arc} {T : List (St × Nat)} (h : RowR g a x s N l T) :
    ∀ n, (pick (fun e : St × Nat => C.getD e.2 0) T n = none ∧ Go.Proofs.Ytgdgelkeflihpaa.pick (cwAt g a y f x s) l n = none) ∨
      ∃ p i n', pick (fun e : St × Nat => C.getD e.2 0) T n = some ((p.1, i), n') ∧ Go.Proofs.Ytgdgelkeflihpaa.pick (cwAt g a y f x s) l n = some (p, n') ∧ N[i]? = some (p.2.2.toNat, aft a s (valAt g x) p.2.1.toNat) ∧ p ∈ l := by
  induction h with
  | nil => intro n; exact .inl ⟨rfl, rfl⟩
  | @skip p0 l0 T0 h1 _ ih =>
    intro n
    have hz : ¬ n < cwAt g a y f x s p0 := by rw [cwAt, h1, cw_none]; omega
    have hz2 : n - cwAt g a y f x s p0 = n := by rw [cwAt, h1, cw_none]; omega
    rcases ih n with ⟨e1, e2⟩ | ⟨p, i, n', e1, e2, e3, e4⟩
    · exact .inl ⟨e1, by rw [Go.Proofs.Ytgdgelkeflihpaa.pick, if_neg hz, hz2, e2]⟩
    · exact .inr ⟨p, i, n', e1, by rw [Go.Proofs.Ytgdgelkeflihpaa.pick, if_neg hz, hz2, e2], e3, List.mem_cons_of_mem _ e4⟩
  | @take p l T i h1 h2 _ ih =>
    intro n
    have hc : C.getD i 0 = cwAt g a y f x s p := hC _ _ h2
    by_cases hn : n < cwAt g a y f x s p
    · exact .inr ⟨p, i, n, by rw [Go.Proofs.Ytgdgelkeflihpaa.pick, if_pos (by rw [hc]; exact hn)], by rw [Go.Proofs.Ytgdgelkeflihpaa.pick, if_pos hn], h2, List.mem_cons_self ..⟩
    · rcases ih (n - cwAt g a y f x s p) with ⟨e1, e2⟩ | ⟨p', i', n', e1, e2, e3, e4⟩
      · exact .inl ⟨by rw [Go.Proofs.Ytgdgelkeflihpaa.pick, if_neg (by rw [hc]; exact hn)]; simp only [hc]; exact e1, by rw [Go.Proofs.Ytgdgelkeflihpaa.pick, if_neg hn, e2]⟩
      · exact .inr ⟨p', i', n', by rw [Go.Proofs.Ytgdgelkeflihpaa.pick, if_neg (by rw [hc]; exact hn)]; simp only [hc]; exact e1, by rw [Go.Proofs.Ytgdgelkeflihpaa.pick, if_neg hn, e2], e3, List.mem_cons_of_mem _ e4⟩
/-- what is left of n when the first i are passed over -/
def leftN {α : Type} (k : α → Nat) (l : List α) (n : Nat) : Nat := l.foldl (fun m p => m - k p) n
theorem pick_skip {α : Type} {k : α → Nat} : ∀ {l : List α} {i n : Nat}, (∀ j p, j < i → l[j]? = some p → ¬ leftN k (l.take j) n < k p) → i ≤ l.length → pick k l n = pick k (l.drop i) (leftN k (l.take i) n)
  | l, 0, n, _, _ => by simp [leftN]
  | [], i + 1, n, _, h => by simp at h
  | p :: l, i + 1, n, h, hi => by
    have h0 := h 0 p (by omega) rfl
    simp only [List.take_zero, leftN, List.foldl_nil] at h0
    rw [pick, if_neg h0, pick_skip (l := l) (i := i) (n := n - k p) (fun j q hj hq => ?_) (by simpa using hi)]
    · simp [leftN]
    · have := h (j + 1) q (by omega) (by simpa using hq)
      simpa [leftN] using this
theorem pick_fold {g : Gr} {a : Au} {y : Int} {f x s : Nat} : ∀ (l : List Arc) (n m : Nat), m ≤ 1000000 → n + m < l.foldl (cwStep g a (cw g a y f) x s) m → ∃ p n', pick (cwAt g a y f x s) l n = some (p, n') ∧ n' < cwAt g a y f x s p ∧ p ∈ l
  | [], n, m, _, h => by simp only [List.foldl_nil] at h; omega
  | p :: l, n, m, hm, h => by
    by_cases hn : n < cwAt g a y f x s p
    · exact ⟨p, n, by rw [pick, if_pos hn], hn, List.mem_cons_self ..⟩
    · have hle : cwStep g a (cw g a y f) x s m p ≤ 1000000 := Nat.min_le_left _ _
      rw [List.foldl_cons] at h
      have hs : cwStep g a (cw g a y f) x s m p = min 1000000 (m + cwAt g a y f x s p) := rfl
      have hmn : min 1000000 (m + cwAt g a y f x s p) ≤ m + cwAt g a y f x s p := Nat.min_le_right _ _
      obtain ⟨p', n', e1, e2, e3⟩ := pick_fold l (n - cwAt g a y f x s p) (cwStep g a (cw g a y f) x s m p) hle (Nat.lt_of_le_of_lt (show n - cwAt g a y f x s p + cwStep g a (cw g a y f) x s m p ≤ n + m by have hS : cwStep g a (cw g a y f) x s m p ≤ m + cwAt g a y f x s p := hmn; omega) h)
      exact ⟨p', n', by rw [pick, if_neg hn, e1], e2, List.mem_cons_of_mem _ e3⟩
theorem pick_cw {g : Gr} {a : Au} {y : Int} {f x s n : Nat} (h : n < cw g a y (f + 1) x s) : ∃ p n', pick (cwAt g a y f x s) (arcsOf g (x : Int)) n = some (p, n') ∧ n' < cwAt g a y f x s p ∧ p ∈ arcsOf g (x : Int) :=
  pick_fold _ n 0 (by omega) (by simpa [cw] using h)
/-- walk number n's steps -/
def nthL (g : Gr) (a : Au) (y : Int) : Nat → Nat → Nat → Nat → List St
  | 0, _, _, _ => []
  | f + 1, x, s, n => match pick (cwAt g a y f x s) (arcsOf g (x : Int)) n with
    | none => []
    | some (p, n') => p.1 :: nthL g a y f p.2.2.toNat (aft a s (valAt g x) p.2.1.toNat) n'
theorem nthL_succ {g : Gr} {a : Au} {y : Int} {f x s n n' : Nat} {p : Arc} (h : pick (cwAt g a y f x s) (arcsOf g (x : Int)) n = some (p, n')) :
    nthL g a y (f + 1) x s n = p.1 :: nthL g a y f p.2.2.toNat (aft a s (valAt g x) p.2.1.toNat) n' := by rw [nthL]; simp only [h]
theorem nthL_len {g : Gr} {a : Au} {y : Int} : ∀ {f x s n : Nat}, n < cw g a y f x s → (nthL g a y f x s n).length = f
  | 0, _, _, _, _ => rfl
  | f + 1, x, s, n, h => by
    obtain ⟨p, n', e1, e2, -⟩ := pick_cw h
    rw [nthL_succ e1, List.length_cons, nthL_len e2]
end Go.Proofs.Ytgdgelkeflihpaa

/- The layers, plainly: keys once each and in bounds; the chain of layers and what they count. -/
namespace Go.Proofs.Ytgdgelkeflihpaa
set_option linter.unusedVariables false
set_option linter.unusedSimpArgs false
open Go.ChangeShapes Go.WideShapes Go.ChangeAt Go.RowKit

structure KeysOk (g : Gr) (a : Au) (N : List Key) : Prop where
  nod : N.Nodup
  rng : ∀ k ∈ N, k.1 < g.vals.length ∧ k.2 < 2 ^ a.accept.length
theorem findK_none {N : List Key} {k : Key} (h : findK N k = none) : k ∉ N := by
  intro hk
  have := List.findIdx?_eq_none_iff.1 h k hk
  simp at this
theorem KeysOk.push {g : Gr} {a : Au} {N : List Key} (h : KeysOk g a N) {k : Key} (hk : k ∉ N) (hr : k.1 < g.vals.length ∧ k.2 < 2 ^ a.accept.length) : KeysOk g a (N ++ [k]) := by
  refine ⟨List.nodup_append.2 ⟨h.nod, by simp, fun b hb c hc e => ?_⟩, fun u hu => ?_⟩
  · rw [List.mem_singleton] at hc
    subst hc e
    exact hk hb
  · rcases List.mem_append.1 hu with hu | hu
    · exact h.rng u hu
    · rw [List.mem_singleton] at hu
      subst hu
      exact hr
theorem arc_key {g : Gr} {a : Au} (hg : GrOk g) (ha : auOk a = true) {x : Int} {p : Arc} (hp : p ∈ arcsOf g x) (s v : Nat) : p.2.2.toNat < g.vals.length ∧ aft a s v p.2.1.toNat < 2 ^ a.accept.length := by
  have h := arc_range hg hp
  exact ⟨by omega, aft_lt ha _ _ _⟩
theorem arcL_ok {g : Gr} {a : Au} (hg : GrOk g) (ha : auOk a = true) {x s : Nat} {p : Arc} (hp : p ∈ arcsOf g (x : Int)) {st : LSt} (h : KeysOk g a st.1) : KeysOk g a (arcL g a x s st p).1 := by
  unfold arcL
  split
  · exact h
  · split
    · exact h
    · rename_i hf
      exact h.push (findK_none hf) (arc_key hg ha hp _ _)
theorem rowTk_ok {g : Gr} {a : Au} (hg : GrOk g) (ha : auOk a = true) {N : List Key} (h : KeysOk g a N) (x s : Nat) : ∀ k, KeysOk g a (rowTk g a N x s k).1
  | 0 => h
  | k + 1 => by
    rcases hk : (arcsOf g (x : Int))[k]? with _ | p
    · have : rowTk g a N x s (k + 1) = rowTk g a N x s k := by
        rw [rowTk, rowTk, List.take_of_length_le (by have := List.getElem?_eq_none_iff.1 hk; omega), List.take_of_length_le (List.getElem?_eq_none_iff.1 hk)]
      rw [this]
      exact rowTk_ok hg ha h x s k
    · rw [rowTk_succ hk]
      exact arcL_ok hg ha (List.mem_of_getElem? hk) (rowTk_ok hg ha h x s k)
theorem rowL_ok {g : Gr} {a : Au} (hg : GrOk g) (ha : auOk a = true) {N : List Key} (h : KeysOk g a N) (x s : Nat) : KeysOk g a (rowL g a N x s).1 := by
  rw [← rowTk_all]; exact rowTk_ok hg ha h x s _
theorem layTo_ok {g : Gr} {a : Au} (hg : GrOk g) (ha : auOk a = true) (last : List Key) : ∀ i, KeysOk g a (layTo g a last i).1
  | 0 => ⟨by simp [layTo], fun k hk => by simp [layTo] at hk⟩
  | i + 1 => by
    rcases hk : last[i]? with _ | k
    · have : layTo g a last (i + 1) = layTo g a last i := by
        rw [layTo, layTo, List.take_of_length_le (by have := List.getElem?_eq_none_iff.1 hk; omega), List.take_of_length_le (List.getElem?_eq_none_iff.1 hk)]
      rw [this]
      exact layTo_ok hg ha last i
    · rw [layTo_succ hk]
      exact rowL_ok hg ha (layTo_ok hg ha last i) _ _
theorem KeysOk.len {g : Gr} {a : Au} (hg : GrOk g) (ha : auOk a = true) {N : List Key} (h : KeysOk g a N) : N.length ≤ 20480 := by
  have h1 := nodup_subN (N.map fun z => z.1 * 4096 + z.2) (List.range 20480) ?_ ?_
  · simpa using h1
  · rw [List.Nodup, List.pairwise_map]
    refine List.Pairwise.imp_of_mem ?_ h.nod
    intro b c hb hc hne he
    refine hne ?_
    have hb := lt12 ha (h.rng b hb).2
    have hc := lt12 ha (h.rng c hc).2
    exact Prod.ext (by omega) (by omega)
  · intro u hu
    obtain ⟨z, hz, rfl⟩ := List.mem_map.1 hu
    have hb := h.rng z hz
    have hb2 := lt12 ha hb.2
    have := hg.n5
    rw [List.mem_range]
    omega
theorem arcL_len {g : Gr} {a : Au} {x s : Nat} (st : LSt) (p : Arc) : (arcL g a x s st p).2.length ≤ st.2.length + 1 := by
  unfold arcL
  split
  · omega
  · split <;> simp
theorem rowTk_len (g : Gr) (a : Au) (N : List Key) (x s : Nat) : ∀ k, (rowTk g a N x s k).2.length ≤ k
  | 0 => by simp [rowTk]
  | k + 1 => by
    rcases hk : (arcsOf g (x : Int))[k]? with _ | p
    · have : rowTk g a N x s (k + 1) = rowTk g a N x s k := by
        rw [rowTk, rowTk, List.take_of_length_le (by have := List.getElem?_eq_none_iff.1 hk; omega), List.take_of_length_le (List.getElem?_eq_none_iff.1 hk)]
      rw [this]
      exact Nat.le_trans (rowTk_len g a N x s k) (by omega)
    · rw [rowTk_succ hk]
      have := rowTk_len g a N x s k
      exact Nat.le_trans (arcL_len _ _) (by omega)

/-! ### The chain of layers -/
def layN (g : Gr) (a : Au) (k0 : Key) : Nat → List Key
  | 0 => [k0]
  | d + 1 => (layA g a (layN g a k0 d)).1
def layT (g : Gr) (a : Au) (k0 : Key) (d i : Nat) : List (St × Nat) := (layA g a (layN g a k0 d)).2.getD i []
theorem layN_ok {g : Gr} {a : Au} (hg : GrOk g) (ha : auOk a = true) {k0 : Key} (h0 : k0.1 < g.vals.length ∧ k0.2 < 2 ^ a.accept.length) : ∀ d, KeysOk g a (layN g a k0 d)
  | 0 => ⟨by simp [layN], fun k hk => by rw [layN, List.mem_singleton] at hk; subst hk; exact h0⟩
  | d + 1 => layTo_ok hg ha _ _
theorem layT_row {g : Gr} {a : Au} {k0 : Key} {d i : Nat} {k : Key} (h : (layN g a k0 d)[i]? = some k) : RowR g a k.1 k.2 (layN g a k0 (d + 1)) (arcsOf g (k.1 : Int)) (layT g a k0 d i) := by
  obtain ⟨h1, h2⟩ := layA_row g a (layN g a k0 d)
  have hi : i < (layA g a (layN g a k0 d)).2.length := by rw [h1]; exact (List.getElem?_eq_some_iff.1 h).1
  refine h2 i k _ h ?_
  rw [layT, List.getD_eq_getElem?_getD, List.getElem?_eq_getElem hi]; rfl
/-- what row i of layer d counts, of n layers behind the first -/
def layC (g : Gr) (a : Au) (y : Int) (k0 : Key) (n d i : Nat) : Nat := match (layN g a k0 d)[i]? with
  | none => 0
  | some k => cw g a y (n - d) k.1 k.2
theorem layC_at {g : Gr} {a : Au} {y : Int} {k0 : Key} {n d i : Nat} {k : Key} (h : (layN g a k0 d)[i]? = some k) : layC g a y k0 n d i = cw g a y (n - d) k.1 k.2 := by rw [layC]; simp only [h]
def cntF (C : Nat → Nat) (n : Nat) (e : St × Nat) : Nat := min 1000000 (n + C e.2)
theorem RowR.cntF {g : Gr} {a : Au} {y : Int} {f x s : Nat} {N : List Key} {C : Nat → Nat} (hC : ∀ i k, N[i]? = some k → C i = cw g a y f k.1 k.2) {l : List Arc} {T : List (St × Nat)} (h : RowR g a x s N l T) :
    ∀ n, n ≤ 1000000 → T.foldl (Go.Proofs.Ytgdgelkeflihpaa.cntF C) n = l.foldl (cwStep g a (cw g a y f) x s) n := by
  induction h with
  | nil => intro n _; rfl
  | skip h1 _ ih =>
    intro n hn
    rw [List.foldl_cons, cwStep, h1, cw_none, Nat.add_zero, Nat.min_eq_right hn]
    exact ih n hn
  | take h1 h2 _ ih =>
    intro n hn
    rw [List.foldl_cons, List.foldl_cons, Go.Proofs.Ytgdgelkeflihpaa.cntF, cwStep, hC _ _ h2]
    exact ih _ (Nat.min_le_left _ _)
theorem layC_fold {g : Gr} {a : Au} {y : Int} {k0 : Key} {n d i : Nat} {k : Key} (h : (layN g a k0 d)[i]? = some k) (hd : d < n) : (layT g a k0 d i).foldl (cntF (layC g a y k0 n (d + 1))) 0 = layC g a y k0 n d i := by
  rw [layC_at h, (layT_row h).cntF (y := y) (f := n - (d + 1)) (fun i k hk => layC_at hk) 0 (by omega), show n - d = (n - (d + 1)) + 1 by omega]
  rfl
theorem layC_le (g : Gr) (a : Au) (y : Int) (k0 : Key) (n d i : Nat) : layC g a y k0 n d i ≤ 1000000 := by
  unfold layC
  split
  · omega
  · exact cw_le ..
theorem RowR.to_lt {g : Gr} {a : Au} {x s : Nat} {N : List Key} {l : List Arc} {T : List (St × Nat)} (h : RowR g a x s N l T) : ∀ e ∈ T, e.2 < N.length := by
  induction h with
  | nil => intro e he; cases he
  | skip _ _ ih => exact ih
  | take _ h2 _ ih =>
    intro e he
    rcases List.mem_cons.1 he with rfl | he
    · exact (List.getElem?_eq_some_iff.1 h2).1
    · exact ih e he
theorem RowR.len {g : Gr} {a : Au} {x s : Nat} {N : List Key} {l : List Arc} {T : List (St × Nat)} (h : RowR g a x s N l T) : T.length ≤ l.length := by
  induction h with
  | nil => exact Nat.le_refl _
  | skip _ _ ih => rw [List.length_cons]; omega
  | take _ _ _ ih => simp only [List.length_cons]; omega
end Go.Proofs.Ytgdgelkeflihpaa

/- The reference's layers in memory: a row of structs with two slices each. -/
namespace Go.Proofs.Ytgdgelkeflihpaa
set_option linter.unusedVariables false
set_option linter.unusedSimpArgs false
open Go.ChangeShapes Go.WideShapes Go.ChangeAt Go.RowKit
structure Zr where
  node : Nat
  set : Nat
  cnt : Nat
  sv : Value
  tv : Value
def cZ (z : Zr) : List Value := [.int .i64 (z.node : Int), .int .i64 (z.set : Int), .int .i64 (z.cnt : Int), z.sv, z.tv]
theorem cZ_len (z : Zr) : (cZ z).length = 5 := rfl
def rawZ (k : Key) : Zr := ⟨k.1, k.2, 0, .slice none 0 0, .slice none 0 0⟩
theorem elZ : ElemOk Try.prog 93 92 (.agg #[.int .i64 0, .int .i64 0, .int .i64 0, .slice none 0 0, .slice none 0 0]) 5 72 := ⟨Try.underlying93, by kernel_rfl, rfl, by omega⟩
/-- a row's two slices, in blocks from lo to hi -/
def RowV (lo hi : Nat) (w : World) (z : Zr) (T : List (St × Nat)) : Prop :=
  Own lo hi w 113 cSt 2 z.sv (T.map (·.1)) ∧ Own lo hi w 3 cN 1 z.tv (T.map (·.2))
theorem flatZ_set : ∀ (zs : List Zr) (i : Nat) (z : Zr), i < zs.length →
    (((((zs.flatMap cZ).set (i * 5) (.int .i64 (z.node : Int))).set (i * 5 + 1) (.int .i64 (z.set : Int))).set (i * 5 + 2) (.int .i64 (z.cnt : Int))).set (i * 5 + 3) z.sv).set (i * 5 + 4) z.tv = (zs.set i z).flatMap cZ
  | [], _, _, h => absurd h (Nat.not_lt_zero _)
  | y :: ys, 0, z, _ => by simp [cZ]
  | y :: ys, i + 1, z, h => by
    have ih := flatZ_set ys i z (by simpa using h)
    simp only [List.flatMap_cons, cZ, List.cons_append, List.nil_append, List.set_cons_succ, Nat.succ_mul]
    rw [← ih]
/-- two rows of one's own, of other types, lie in other blocks -/
theorem own_ne {w : World} {b1 b2 k1 k2 n1 n2 : Nat} {e1 e2 : TypeId} {v1 v2 : Value} {c1 c2 : List Value} (h1 : w.ownsRow b1 e1 k1 v1 n1 c1) (h2 : w.ownsRow b2 e2 k2 v2 n2 c2) (he : e1 ≠ e2) {g : Nat} (hg : v1.ownBlock = some g) : v2.ownBlock ≠ some g := by
  intro hg2
  rcases h1.2 with ⟨rfl, _⟩ | ⟨g1, _, _, rfl, _, hh1, _⟩
  · cases hg
  · rcases h2.2 with ⟨rfl, _⟩ | ⟨g2, _, _, rfl, _, hh2, _⟩
    · cases hg2
    · simp only [Value.ownBlock, Option.some.injEq] at hg hg2
      subst hg hg2
      rw [hh1] at hh2
      injection hh2 with hh2
      injection hh2 with _ h4
      exact he h4
theorem Own.ne_of {w : World} {b1 k1 n1 lo hi k : Nat} {e1 e : TypeId} {v1 v : Value} {c1 : List Value} {α : Type} {E : α → List Value} {xs : List α} (h1 : w.ownsRow b1 e1 k1 v1 n1 c1) (h : Own lo hi w e E k v xs) (he : e1 ≠ e) {g : Nat} (hg : v.ownBlock = some g) : v1.ownBlock ≠ some g :=
  own_ne h.1 h1 (Ne.symm he) hg
theorem Own.blocks {lo hi k : Nat} {w w' : World} {e : TypeId} {v : Value} {α : Type} {E : α → List Value} {xs : List α} (h : Own lo hi w e E k v xs) (hb : ∀ g, v.ownBlock = some g → w'.heap[g]? = w.heap[g]?) : Own lo hi w' e E k v xs := ⟨ownsRow_block h.1 hb, h.2⟩
theorem tyZS : 92 ≠ 113 := by decide
theorem tyZI : 92 ≠ 3 := by decide
theorem tySI : 113 ≠ 3 := by decide
section
variable {lo hi g c : Nat} {w w' : World} {N : List Key} {C : Nat → Nat} {T : Nat → List (St × Nat)} {zs : List Zr} {z : Zr} {t : List (St × Nat)}
theorem RowV.nil (lo hi : Nat) (w : World) (k : Key) : RowV lo hi w (rawZ k) [] := ⟨Own.nil _ _ _ _ _ _, Own.nil _ _ _ _ _ _⟩
theorem RowV.mono (h : RowV lo hi w z t) {lo' hi' : Nat} (h1 : lo' ≤ lo) (h2 : hi ≤ hi') : RowV lo' hi' w z t := ⟨h.1.mono h1 h2, h.2.mono h1 h2⟩
theorem RowV.blocks (h : RowV lo hi w z t) (hb : ∀ b, lo ≤ b → b < hi → b < w.heap.size → w'.heap[b]? = w.heap[b]?) : RowV lo hi w' z t :=
  ⟨h.1.blocks fun b hg => hb b (h.1.lt b hg).1 (h.1.lt b hg).2.1 (h.1.lt b hg).2.2, h.2.blocks fun b hg => hb b (h.2.lt b hg).1 (h.2.lt b hg).2.1 (h.2.lt b hg).2.2⟩
theorem RowV.below (h : RowV lo hi w z t) (hb : Below w.heap.size w w') : RowV lo hi w' z t := h.blocks fun b _ _ hl => hb.block b hl
/-- a row's slices stand when a block of the rows' own type turns -/
theorem RowV.nodeTurn (h : RowV lo hi w z t) {b0 n0 c0 : Nat} {cs0 : List Value} (hr : w.ownsRow b0 92 5 (.slice (some ⟨g, 0, none⟩) n0 c0) n0 cs0) (hb : ∀ b, b ≠ g → b < w.heap.size → w'.heap[b]? = w.heap[b]?) : RowV lo hi w' z t :=
  ⟨h.1.blocks fun b hg => hb b (fun e => by subst e; exact Own.ne_of hr h.1 tyZS hg rfl) (h.1.lt b hg).2.2, h.2.blocks fun b hg => hb b (fun e => by subst e; exact Own.ne_of hr h.2 tyZI hg rfl) (h.2.lt b hg).2.2⟩
/-- a layer: the rows lie in block g, their slices in blocks from lo to hi -/
structure LayV (lo hi : Nat) (w : World) (g c : Nat) (N : List Key) (C : Nat → Nat) (T : Nat → List (St × Nat)) (zs : List Zr) : Prop where
  row : w.ownsRow 0 92 5 (.slice (some ⟨g, 0, none⟩) N.length c) N.length (zs.flatMap cZ)
  len : zs.length = N.length
  at_ : ∀ i k z, N[i]? = some k → zs[i]? = some z → z.node = k.1 ∧ z.set = k.2 ∧ z.cnt = C i ∧ RowV lo hi w z (T i)
theorem LayV.lt (h : LayV lo hi w g c N C T zs) : g < w.heap.size := (h.row.lt g rfl).2
theorem LayV.blocks (h : LayV lo hi w g c N C T zs) (hb : ∀ b, (b = g ∨ (lo ≤ b ∧ b < hi)) → b < w.heap.size → w'.heap[b]? = w.heap[b]?) : LayV lo hi w' g c N C T zs :=
  ⟨ownsRow_block h.row fun b hg => hb b (.inl (by injection hg with hg; exact hg.symm)) (h.row.lt b hg).2, h.len, fun i k z hk hz => by
    obtain ⟨h1, h2, h3, h4⟩ := h.at_ i k z hk hz
    exact ⟨h1, h2, h3, h4.blocks fun b h5 h6 hl => hb b (.inr ⟨h5, h6⟩) hl⟩⟩
theorem LayV.below (h : LayV lo hi w g c N C T zs) (hb : Below w.heap.size w w') : LayV lo hi w' g c N C T zs := h.blocks fun b _ hl => hb.block b hl
theorem LayV.mono (h : LayV lo hi w g c N C T zs) {lo' hi' : Nat} (h1 : lo' ≤ lo) (h2 : hi ≤ hi') : LayV lo' hi' w g c N C T zs :=
  ⟨h.row, h.len, fun i k z hk hz => by obtain ⟨a1, a2, a3, a4⟩ := h.at_ i k z hk hz; exact ⟨a1, a2, a3, a4.mono h1 h2⟩⟩
/-- another block of rows turns: the layer stands -/
theorem LayV.other (h : LayV lo hi w g c N C T zs) {g' b0 n0 c0 : Nat} {cs0 : List Value} (hr : w.ownsRow b0 92 5 (.slice (some ⟨g', 0, none⟩) n0 c0) n0 cs0) (hne : g ≠ g') (hb : ∀ b, b ≠ g' → b < w.heap.size → w'.heap[b]? = w.heap[b]?) : LayV lo hi w' g c N C T zs :=
  ⟨ownsRow_block h.row fun b hg => hb b (by injection hg with hg; rw [← hg]; exact hne) (h.row.lt b hg).2, h.len, fun i k z hk hz => by
    obtain ⟨h1, h2, h3, h4⟩ := h.at_ i k z hk hz
    exact ⟨h1, h2, h3, h4.nodeTurn hr hb⟩⟩
theorem LayV.get (h : LayV lo hi w g c N C T zs) {i : Nat} {k : Key} (hk : N[i]? = some k) : ∃ z, zs[i]? = some z ∧ z.node = k.1 ∧ z.set = k.2 ∧ z.cnt = C i ∧ RowV lo hi w z (T i) ∧
    w.cell? ⟨g, i * 5, none⟩ = some (.int .i64 (k.1 : Int)) ∧ w.cell? ⟨g, i * 5 + 1, none⟩ = some (.int .i64 (k.2 : Int)) ∧ w.cell? ⟨g, i * 5 + 2, none⟩ = some (.int .i64 (C i : Int)) ∧ w.cell? ⟨g, i * 5 + 3, none⟩ = some z.sv ∧ w.cell? ⟨g, i * 5 + 4, none⟩ = some z.tv := by
  have hi := (List.getElem?_eq_some_iff.1 hk).1
  have hz : zs[i]? = some (zs[i]'(by rw [h.len]; exact hi)) := List.getElem?_eq_getElem _
  generalize zs[i]'(by rw [h.len]; exact hi) = z at hz
  obtain ⟨h1, h2, h3, h4⟩ := h.at_ i k z hk hz
  have hc : ∀ j u, (cZ z)[j]? = some u → j < 5 → w.cell? ⟨g, i * 5 + j, none⟩ = some u := fun j u hu hj => by
    rw [h.row.cellAt (i * 5 + j) (by omega)]
    exact flat_at cZ_len hz j u hu
  refine ⟨z, hz, h1, h2, h3, h4, ?_, ?_, ?_, hc 3 _ rfl (by omega), hc 4 _ rfl (by omega)⟩
  · rw [← h1]; exact hc 0 _ rfl (by omega)
  · rw [← h2]; exact hc 1 _ rfl (by omega)
  · rw [← h3]; exact hc 2 _ rfl (by omega)
/-- a row is stored anew: five cells -/
def put5 (w : World) (g o : Nat) (z : Zr) : World :=
  ((((w.setCell ⟨g, o, none⟩ (.int .i64 (z.node : Int))).setCell ⟨g, o + 1, none⟩ (.int .i64 (z.set : Int))).setCell ⟨g, o + 2, none⟩ (.int .i64 (z.cnt : Int))).setCell ⟨g, o + 3, none⟩ z.sv).setCell ⟨g, o + 4, none⟩ z.tv
theorem put5_block (w : World) (g o : Nat) (z : Zr) : ∀ b, b ≠ g → (put5 w g o z).heap[b]? = w.heap[b]? := fun b hb => by
  unfold put5
  rw [Below.heap_setCell _ _ _ _ hb, Below.heap_setCell _ _ _ _ hb, Below.heap_setCell _ _ _ _ hb, Below.heap_setCell _ _ _ _ hb, Below.heap_setCell _ _ _ _ hb]
theorem put5_size (w : World) (g o : Nat) (z : Zr) : (put5 w g o z).heap.size = w.heap.size := by simp [put5]
theorem put5_only (w : World) (g o : Nat) (z : Zr) : Only g (g + 1) w (put5 w g o z) :=
  (((((Only.refl g (g + 1) w).setCell (p := ⟨g, o, none⟩) (.inl ⟨Nat.le_refl _, Nat.lt_succ_self _⟩) _).setCell (p := ⟨g, o + 1, none⟩) (.inl ⟨Nat.le_refl _, Nat.lt_succ_self _⟩) _).setCell (p := ⟨g, o + 2, none⟩) (.inl ⟨Nat.le_refl _, Nat.lt_succ_self _⟩) _).setCell (p := ⟨g, o + 3, none⟩) (.inl ⟨Nat.le_refl _, Nat.lt_succ_self _⟩) _).setCell (p := ⟨g, o + 4, none⟩) (.inl ⟨Nat.le_refl _, Nat.lt_succ_self _⟩) _
theorem LayV.put (h : LayV lo hi w g c N C T zs) {i : Nat} {k : Key} {z : Zr} {n : Nat} {t : List (St × Nat)} (hk : N[i]? = some k) (h1 : z.node = k.1) (h2 : z.set = k.2) (h3 : z.cnt = n) (h4 : RowV lo hi w z t) :
    LayV lo hi (put5 w g (i * 5) z) g c N (fun j => if j = i then n else C j) (fun j => if j = i then t else T j) (zs.set i z) := by
  have hi := (List.getElem?_eq_some_iff.1 hk).1
  have hb := put5_block w g (i * 5) z
  refine ⟨?_, by rw [List.length_set, h.len], fun j k' z' hk' hz' => ?_⟩
  · have r1 := (World.ownsRow.stored h.row (i * 5) (.int .i64 (z.node : Int))).1
    have r2 := (World.ownsRow.stored r1 (i * 5 + 1) (.int .i64 (z.set : Int))).1
    have r3 := (World.ownsRow.stored r2 (i * 5 + 2) (.int .i64 (z.cnt : Int))).1
    have r4 := (World.ownsRow.stored r3 (i * 5 + 3) z.sv).1
    have r5 := (World.ownsRow.stored r4 (i * 5 + 4) z.tv).1
    rw [flatZ_set zs i z (by rw [h.len]; exact hi)] at r5
    exact r5
  · rw [List.getElem?_set] at hz'
    by_cases e : i = j
    · subst e
      rw [if_pos rfl, if_pos (by rw [h.len]; exact hi)] at hz'
      injection hz' with hz'
      subst hz'
      rw [hk] at hk'
      injection hk' with hk'
      subst hk'
      rw [if_pos rfl, if_pos rfl]
      exact ⟨h1, h2, h3, h4.nodeTurn h.row fun b hb' _ => hb b hb'⟩
    · rw [if_neg e] at hz'
      obtain ⟨g1, g2, g3, g4⟩ := h.at_ j k' z' hk' hz'
      rw [if_neg (Ne.symm e), if_neg (Ne.symm e)]
      exact ⟨g1, g2, g3, g4.nodeTurn h.row fun b hb' _ => hb b hb'⟩
theorem LayV.congr (h : LayV lo hi w g c N C T zs) {C' : Nat → Nat} {T' : Nat → List (St × Nat)} (hC : ∀ i, i < N.length → C' i = C i) (hT : ∀ i, i < N.length → T' i = T i) : LayV lo hi w g c N C' T' zs :=
  ⟨h.row, h.len, fun i k z hk hz => by
    have hi := (List.getElem?_eq_some_iff.1 hk).1
    rw [hC i hi, hT i hi]
    exact h.at_ i k z hk hz⟩
theorem LayV.raw (w : World) (N : List Key) (h : w.ownsRow 0 92 5 (.slice (some ⟨g, 0, none⟩) N.length c) N.length ((N.map rawZ).flatMap cZ)) (lo hi : Nat) : LayV lo hi w g c N (fun _ => 0) (fun _ => []) (N.map rawZ) :=
  ⟨h, by simp, fun i k z hk hz => by
    rw [List.getElem?_map, hk] at hz
    simp only [Option.map_some, Option.some.injEq] at hz
    subst hz
    exact ⟨rfl, rfl, rfl, RowV.nil _ _ _ _⟩⟩
end
end Go.Proofs.Ytgdgelkeflihpaa

/- The reference's l19Find. -/
namespace Go.Proofs.Ytgdgelkeflihpaa
set_option linter.unusedVariables false
set_option linter.unusedSimpArgs false
open Go.ChangeShapes Go.WideShapes Go.ChangeAt Go.RowKit
attribute [local go_sem] ext_cell ext_frozen ext_lt ext_lt1 ext_lt2 ext_lt3 ltn2 ltn3 ltn13 lts1 lts2 lts3
theorem findK_hit {N : List Key} {k : Key} {i : Nat} (h : N[i]? = some k) (hno : ∀ (j : Nat) (k' : Key), j < i → N[j]? = some k' → k' ≠ k) : findK N k = some i := by
  refine List.findIdx?_eq_some_iff_getElem.2 ⟨(List.getElem?_eq_some_iff.1 h).1, ?_, fun j hj => ?_⟩
  · rw [(List.getElem?_eq_some_iff.1 h).2]; simp
  · have hjl : j < N.length := Nat.lt_trans hj (List.getElem?_eq_some_iff.1 h).1
    have := hno j N[j] hj (List.getElem?_eq_getElem hjl)
    simpa using this
theorem findK_miss {N : List Key} {k : Key} (hno : ∀ (j : Nat) (k' : Key), j < N.length → N[j]? = some k' → k' ≠ k) : findK N k = none := by
  refine List.findIdx?_eq_none_iff.2 fun x hx => ?_
  obtain ⟨j, hj, rfl⟩ := List.getElem_of_mem hx
  have := hno j _ hj (List.getElem?_eq_getElem hj)
  simpa using this
def findI (N : List Key) (k : Key) : Int := match findK N k with
  | some i => (i : Int)
  | none => -1
theorem rawZ_at {N : List Key} {i : Nat} {k : Key} (h : N[i]? = some k) : (N.map rawZ)[i]? = some (rawZ k) := by rw [List.getElem?_map, h]; rfl
set_option maxHeartbeats 2000000 in
theorem l19Find_any (v : Value) (N : List Key) (x m : Nat) (w : World) (hv : SlE w cZ 5 v (N.map rawZ)) :
    Calls Try.prog 147 #[v, .int .i64 (x : Int), .int .i64 (m : Int)] w fun e w' => e = .returned (.int .i64 (findI N (x, m))) ∧ w' = w := by
  obtain ⟨A, c, rfl, hl, hm, hC⟩ := SlE.form hv
  rw [List.length_map] at hl ⊢
  have HC := Lib.hid hC
  obtain ⟨R, hR⟩ : ∃ R, R = findI N (x, m) := ⟨_, rfl⟩
  rw [← hR]
  have HR := Lib.hid hR
  clear hv hC hR
  go_enter Try.func147, Try.ntmps147
  go_wp2_with fail
  go_loop [7] (fun ii => ∃ i : Nat, i ≤ N.length ∧ ii = .int .i64 (i : Int) ∧ (∀ (j : Nat) (k' : Key), j < i → N[j]? = some k' → k' ≠ (x, m))) (fun ii => N.length - (intOf ii).toNat)
  case atStart => exact ⟨0, Nat.zero_le _, rfl, fun j k' hj => by omega⟩
  case round =>
    obtain ⟨i, hi, rfl, hno⟩ := hrel
    have HNO := Lib.hid hno
    clear hno
    by_cases hlt : i < N.length
    · have hk : N[i]? = some N[i] := List.getElem?_eq_getElem hlt
      generalize N[i] = k at hk
      obtain ⟨b, o, rfl, hb, hc⟩ := HC.out.at_ i (rawZ k) (rawZ_at hk)
      have d0 := hc 0 _ rfl
      have d1 := hc 1 _ rfl
      rw [Nat.add_zero] at d0
      have hii : (i : Int) < (N.length : Int) := by omega
      obtain ⟨kn, ks⟩ := k
      simp only [rawZ] at d0 d1
      have HK := Lib.hid hk
      clear hc hk
      by_cases h1 : kn = x
      · subst h1
        by_cases h2 : ks = m
        · subst h2
          have hfin : R = (i : Int) := by rw [HR.out, findI, findK_hit HK.out HNO.out]
          subst hfin
          clear HR
          go_wp2
          go_ret
          exact ⟨rfl, rfl⟩
        · have h2a : ((ks : Int) == (m : Int)) = false := by simp; omega
          have h2b : decide ((ks : Int) = (m : Int)) = false := by simp; omega
          have HN := Lib.hid (show ∀ (j : Nat) (k' : Key), j < i + 1 → N[j]? = some k' → k' ≠ (kn, m) from fun j k' hj hk' => by
            rcases Nat.lt_or_ge j i with h | h
            · exact HNO.out j k' h hk'
            · obtain rfl : j = i := (by omega)
              rw [HK.out] at hk'
              injection hk' with hk'
              rw [← hk']; intro e; injection e with _ e; exact h2 e)
          go_wp2
          go_round
          case rel => exact ⟨i + 1, by omega, by go_num, HN.out⟩
          case measure => simp [intOf]; omega
      · have h1a : ((kn : Int) == (x : Int)) = false := by simp; omega
        have h1b : decide ((kn : Int) = (x : Int)) = false := by simp; omega
        have HN := Lib.hid (show ∀ (j : Nat) (k' : Key), j < i + 1 → N[j]? = some k' → k' ≠ (x, m) from fun j k' hj hk' => by
          rcases Nat.lt_or_ge j i with h | h
          · exact HNO.out j k' h hk'
          · obtain rfl : j = i := (by omega)
            rw [HK.out] at hk'
            injection hk' with hk'
            rw [← hk']; intro e; injection e with e _; exact h1 e)
        go_wp2
        go_round
        case rel => exact ⟨i + 1, by omega, by go_num, HN.out⟩
        case measure => simp [intOf]; omega
    · obtain rfl : i = N.length := by omega
      have hfin : R = -1 := by rw [HR.out, findI, findK_miss HNO.out]
      subst hfin
      clear HR
      go_wp2
      go_ret
      exact ⟨rfl, rfl⟩
end Go.Proofs.Ytgdgelkeflihpaa

/- A layer in the making: the row that is filled beside the others. -/
namespace Go.Proofs.Ytgdgelkeflihpaa
set_option linter.unusedVariables false
set_option linter.unusedSimpArgs false
open Go.ChangeShapes Go.WideShapes Go.ChangeAt Go.RowKit
section
variable {lo hi H g c i : Nat} {w w' : World} {N : List Key} {T : Nat → List (St × Nat)} {zs : List Zr} {z : Zr} {t : List (St × Nat)}
/-- all rows but i lie below H; row i's slices from H on -/
structure LayR (b H i : Nat) (w : World) (g c : Nat) (N : List Key) (T : Nat → List (St × Nat)) (t : List (St × Nat)) (zs : List Zr) : Prop where
  row : w.ownsRow 0 92 5 (.slice (some ⟨g, 0, none⟩) N.length c) N.length (zs.flatMap cZ)
  len : zs.length = N.length
  rest : ∀ j k z, j ≠ i → N[j]? = some k → zs[j]? = some z → z.node = k.1 ∧ z.set = k.2 ∧ z.cnt = 0 ∧ RowV b H w z (T j)
  cur : ∀ k z, N[i]? = some k → zs[i]? = some z → z.node = k.1 ∧ z.set = k.2 ∧ z.cnt = 0 ∧ RowV H w.heap.size w z t
  raw : ∀ j k, i < j → N[j]? = some k → zs[j]? = some (rawZ k)
theorem RowV.nilAny (k : Key) (lo hi : Nat) (w : World) : RowV lo hi w (rawZ k) [] := RowV.nil _ _ _ _
/-- .. when a row is begun -/
theorem LayR.start (h : LayV lo hi w g c N (fun _ => 0) T zs) (hb : hi ≤ H) (hr : ∀ j k, i ≤ j → N[j]? = some k → zs[j]? = some (rawZ k)) : LayR lo H i w g c N T [] zs :=
  ⟨h.row, h.len, fun j k z _ hk hz => by
    obtain ⟨h1, h2, h3, h4⟩ := h.at_ j k z hk hz
    exact ⟨h1, h2, h3, h4.mono (Nat.le_refl _) hb⟩, fun k z hk hz => by
    have := hr i k (Nat.le_refl _) hk
    rw [hz] at this
    injection this with this
    subst this
    exact ⟨rfl, rfl, rfl, RowV.nil _ _ _ _⟩, fun j k hj hk => hr j k (by omega) hk⟩
/-- .. when it is done -/
theorem LayR.done {T' : Nat → List (St × Nat)} (h : LayR lo H i w g c N T t zs) (hlH : lo ≤ H) (hH : H ≤ w.heap.size) (hT : ∀ j, j ≠ i → j < N.length → T' j = T j) (ht : T' i = t) : LayV lo w.heap.size w g c N (fun _ => 0) T' zs :=
  ⟨h.row, h.len, fun j k z hk hz => by
    by_cases e : j = i
    · subst e
      obtain ⟨h1, h2, h3, h4⟩ := h.cur k z hk hz
      rw [ht]
      exact ⟨h1, h2, h3, h4.mono hlH (Nat.le_refl _)⟩
    · obtain ⟨h1, h2, h3, h4⟩ := h.rest j k z e hk hz
      rw [hT j e (List.getElem?_eq_some_iff.1 hk).1]
      exact ⟨h1, h2, h3, h4.mono (Nat.le_refl _) hH⟩⟩
theorem LayR.lt (h : LayR lo H i w g c N T t zs) : g < w.heap.size := (h.row.lt g rfl).2
/-- blocks that the layer does not hold may turn -/
theorem LayR.below (h : LayR lo H i w g c N T t zs) (hb : Below w.heap.size w w') : LayR lo H i w' g c N T t zs :=
  ⟨ownsRow_below h.row hb (Nat.le_refl _), h.len, fun j k z hj hk hz => by
    obtain ⟨h1, h2, h3, h4⟩ := h.rest j k z hj hk hz
    exact ⟨h1, h2, h3, h4.below hb⟩, fun k z hk hz => by
    obtain ⟨h1, h2, h3, h4⟩ := h.cur k z hk hz
    exact ⟨h1, h2, h3, (h4.below hb).mono (Nat.le_refl _) hb.size⟩, h.raw⟩
/-- another block of rows turns -/
theorem LayR.other (h : LayR lo H i w g c N T t zs) {g' b0 n0 c0 : Nat} {cs0 : List Value} (hr : w.ownsRow b0 92 5 (.slice (some ⟨g', 0, none⟩) n0 c0) n0 cs0) (hne : g ≠ g') (hs : w.heap.size ≤ w'.heap.size) (hb : ∀ b, b ≠ g' → b < w.heap.size → w'.heap[b]? = w.heap[b]?) : LayR lo H i w' g c N T t zs :=
  ⟨ownsRow_block h.row fun b hg => hb b (by injection hg with hg; rw [← hg]; exact hne) (h.row.lt b hg).2, h.len, fun j k z hj hk hz => by
    obtain ⟨h1, h2, h3, h4⟩ := h.rest j k z hj hk hz
    exact ⟨h1, h2, h3, h4.nodeTurn hr hb⟩, fun k z hk hz => by
    obtain ⟨h1, h2, h3, h4⟩ := h.cur k z hk hz
    exact ⟨h1, h2, h3, (h4.nodeTurn hr hb).mono (Nat.le_refl _) hs⟩, h.raw⟩
/-- row i's slices turn: the others stand, and the rows' block -/
theorem LayR.rowTurn (h : LayR lo H i w g c N T t zs) (hgH : g < H) (hb : ∀ b, b < H → b < w.heap.size → w'.heap[b]? = w.heap[b]?) :
    w'.ownsRow 0 92 5 (.slice (some ⟨g, 0, none⟩) N.length c) N.length (zs.flatMap cZ) ∧ ∀ j k z, j ≠ i → N[j]? = some k → zs[j]? = some z → z.node = k.1 ∧ z.set = k.2 ∧ z.cnt = 0 ∧ RowV lo H w' z (T j) :=
  ⟨ownsRow_block h.row fun b hg => hb b (by injection hg with hg; rw [← hg]; exact hgH) (h.row.lt b hg).2, fun j k z hj hk hz => by
    obtain ⟨h1, h2, h3, h4⟩ := h.rest j k z hj hk hz
    exact ⟨h1, h2, h3, h4.blocks fun b _ h5 h6 => hb b h5 h6⟩⟩
/-- row i is stored anew -/
theorem LayR.put {t' : List (St × Nat)} (h : LayR lo H i w g c N T t zs) (hgH : g < H) (hb : ∀ b, b < H → b < w.heap.size → w'.heap[b]? = w.heap[b]?) {k : Key} (hk : N[i]? = some k) (h1 : z.node = k.1) (h2 : z.set = k.2) (h3 : z.cnt = 0) (h4 : RowV H w'.heap.size w' z t') :
    LayR lo H i (put5 w' g (i * 5) z) g c N T t' (zs.set i z) := by
  have hi := (List.getElem?_eq_some_iff.1 hk).1
  obtain ⟨hrow, hrest⟩ := h.rowTurn hgH hb
  have hbp := put5_block w' g (i * 5) z
  have hsz := put5_size w' g (i * 5) z
  refine ⟨?_, by rw [List.length_set, h.len], fun j k' z' hj hk' hz' => ?_, fun k' z' hk' hz' => ?_, fun j k' hj hk' => ?_⟩
  · have r1 := (World.ownsRow.stored hrow (i * 5) (.int .i64 (z.node : Int))).1
    have r2 := (World.ownsRow.stored r1 (i * 5 + 1) (.int .i64 (z.set : Int))).1
    have r3 := (World.ownsRow.stored r2 (i * 5 + 2) (.int .i64 (z.cnt : Int))).1
    have r4 := (World.ownsRow.stored r3 (i * 5 + 3) z.sv).1
    have r5 := (World.ownsRow.stored r4 (i * 5 + 4) z.tv).1
    rw [flatZ_set zs i z (by rw [h.len]; exact hi)] at r5
    exact r5
  · rw [List.getElem?_set, if_neg (Ne.symm hj)] at hz'
    obtain ⟨g1, g2, g3, g4⟩ := hrest j k' z' hj hk' hz'
    exact ⟨g1, g2, g3, g4.nodeTurn hrow fun b hb' _ => hbp b hb'⟩
  · rw [List.getElem?_set, if_pos rfl, if_pos (by rw [h.len]; exact hi)] at hz'
    injection hz' with hz'
    subst hz'
    rw [hk] at hk'
    injection hk' with hk'
    subst hk'
    refine ⟨h1, h2, h3, ?_⟩
    rw [hsz]
    exact h4.nodeTurn hrow fun b hb' _ => hbp b hb'
  · rw [List.getElem?_set, if_neg (by omega)]
    exact h.raw j k' hj hk'
theorem LayR.get (h : LayR lo H i w g c N T t zs) {k : Key} (hk : N[i]? = some k) : ∃ z, zs[i]? = some z ∧ z.node = k.1 ∧ z.set = k.2 ∧ z.cnt = 0 ∧ RowV H w.heap.size w z t ∧
    w.cell? ⟨g, i * 5, none⟩ = some (.int .i64 (k.1 : Int)) ∧ w.cell? ⟨g, i * 5 + 1, none⟩ = some (.int .i64 (k.2 : Int)) ∧ w.cell? ⟨g, i * 5 + 2, none⟩ = some (.int .i64 0) ∧ w.cell? ⟨g, i * 5 + 3, none⟩ = some z.sv ∧ w.cell? ⟨g, i * 5 + 4, none⟩ = some z.tv := by
  have hi := (List.getElem?_eq_some_iff.1 hk).1
  have hz : zs[i]? = some (zs[i]'(by rw [h.len]; exact hi)) := List.getElem?_eq_getElem _
  generalize zs[i]'(by rw [h.len]; exact hi) = z at hz
  obtain ⟨h1, h2, h3, h4⟩ := h.cur k z hk hz
  have hc : ∀ j u, (cZ z)[j]? = some u → j < 5 → w.cell? ⟨g, i * 5 + j, none⟩ = some u := fun j u hu hj => by
    rw [h.row.cellAt (i * 5 + j) (by omega)]
    exact flat_at cZ_len hz j u hu
  refine ⟨z, hz, h1, h2, h3, h4, ?_, ?_, ?_, hc 3 _ rfl (by omega), hc 4 _ rfl (by omega)⟩
  · rw [← h1]; exact hc 0 _ rfl (by omega)
  · rw [← h2]; exact hc 1 _ rfl (by omega)
  · have := hc 2 _ rfl (by omega)
    rw [h3] at this
    exact this
end
end Go.Proofs.Ytgdgelkeflihpaa

/- What a call leaves that writes one box and one row of its own: all other blocks stand. -/
namespace Go.Proofs.Ytgdgelkeflihpaa
set_option linter.unusedVariables false
set_option linter.unusedSimpArgs false
open Go.ChangeShapes Go.WideShapes Go.ChangeAt Go.RowKit

structure Srw (bS : Nat) (r : Option Nat) (w w' : World) : Prop where
  os : w'.os = w.os
  tape : w'.tape = w.tape
  output : w'.output = w.output
  size : w.heap.size ≤ w'.heap.size
  block : ∀ n, n < w.heap.size → n ≠ bS → r ≠ some n → w'.heap[n]? = w.heap[n]?
section
variable {bS : Nat} {r r1 : Option Nat} {w w1 w2 w' : World}
theorem Srw.refl (bS : Nat) (r : Option Nat) (w : World) : Srw bS r w w := ⟨rfl, rfl, rfl, Nat.le_refl _, fun _ _ _ _ => rfl⟩
theorem Srw.trans (h : Srw bS r w w1) (h2 : Srw bS r1 w1 w2) (hr : ∀ n, r1 = some n → r = some n ∨ w.heap.size ≤ n) : Srw bS r w w2 :=
  ⟨h2.os.trans h.os, h2.tape.trans h.tape, h2.output.trans h.output, Nat.le_trans h.size h2.size, fun n hn h3 h4 =>
    (h2.block n (Nat.lt_of_lt_of_le hn h.size) h3 (fun e => by rcases hr n e with h5 | h5; exact h4 h5; omega)).trans (h.block n hn h3 h4)⟩
theorem Srw.of_below {B : Nat} (h : Below B w w') (hB : w.heap.size ≤ B) (bS : Nat) (r : Option Nat) : Srw bS r w w' := ⟨h.os, h.tape, h.output, h.size, fun n hn _ _ => h.block n (by omega)⟩
theorem Srw.set (bS : Nat) (r : Option Nat) (w : World) (i : Nat) (u : Value) : Srw bS r w (w.setCell ⟨bS, i, none⟩ u) :=
  ⟨rfl, rfl, rfl, by simp [World.setCell], fun n _ h3 _ => Below.heap_setCell w ⟨bS, i, none⟩ u n h3⟩
theorem Srw.of_grown (h : w.grownBy w' r1) (hr : ∀ n, r1 = some n → r = some n ∨ w.heap.size ≤ n) (bS : Nat) : Srw bS r w w' :=
  ⟨h.os, h.tape, h.output, h.size, fun n hn _ h4 => h.block n hn (fun e => by rcases hr n e.symm with h5 | h5; exact h4 h5; omega)⟩
theorem Srw.below (h : Srw bS r w w') {B : Nat} (h1 : B ≤ bS) (h2 : ∀ n, r = some n → B ≤ n) (h3 : B ≤ w.heap.size) : Below B w w' :=
  ⟨h.os, h.tape, h.output, h.size, fun n hn => h.block n (by omega) (by omega) (fun e => by have := h2 n e; omega)⟩
theorem Srw.sl {α : Type} {E : α → List Value} {lo hi k : Nat} {v : Value} {xs : List α} (h : SlI lo hi w E k v xs) (hs : Srw bS r w w') (hh : hi ≤ w.heap.size) (h1 : bS < lo ∨ hi ≤ bS) (h2 : ∀ n, r = some n → n < lo ∨ hi ≤ n) : SlI lo hi w' E k v xs :=
  h.keep_ fun b o h3 h4 => World.cell?_of_block (hs.block b (by omega) (by omega) (fun e => by have := h2 b e; omega))
theorem Srw.only {W0 : World} (h : Srw bS r w w') (h1 : ∀ n, r = some n → W0.heap.size ≤ n) : Only bS (bS + 1) W0 w → Only bS (bS + 1) W0 w' := fun h0 =>
  ⟨h.os.trans h0.os, h.tape.trans h0.tape, h.output.trans h0.output, Nat.le_trans h0.size h.size, fun n hn ho => (h.block n (Nat.lt_of_lt_of_le hn h0.size) (by omega) (fun e => by have := h1 n e; omega)).trans (h0.block n hn ho)⟩
theorem Srw.cell {b o : Nat} {v : Value} (hs : Srw bS r w w') (hc : w.cell? ⟨b, o, none⟩ = some v) (hb : b < w.heap.size) (h1 : b ≠ bS) (h2 : r ≠ some b) : w'.cell? ⟨b, o, none⟩ = some v :=
  (World.cell?_of_block (a := ⟨b, o, none⟩) (hs.block b hb h1 h2)).trans hc
theorem SlI.stI {lo hi : Nat} {w : World} {A : Option Addr} {n c : Nat} {xs : List St} (h : SlI lo hi w cSt 2 (.slice A n c) xs) {i : Nat} {x : St} (hx : xs[i]? = some x) :
    ∃ b o, A = some ⟨b, o, none⟩ ∧ (lo ≤ b ∧ b < hi) ∧ w.cell? ⟨b, o + i * 2, none⟩ = some (.int .i64 x.1) ∧ w.cell? ⟨b, o + i * 2 + 1, none⟩ = some (.bool x.2) := by
  obtain ⟨A', c', hv, _, _, h3⟩ := h
  injection hv with h1 _ _
  subst h1
  obtain ⟨b, o, e, g1, g2, hc⟩ := h3 i x hx
  exact ⟨b, o, e, ⟨g1, g2⟩, by simpa using hc 0 _ rfl, hc 1 _ rfl⟩
end
end Go.Proofs.Ytgdgelkeflihpaa

