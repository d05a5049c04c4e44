/- Parts of the proof, joined into one text: Nest, LawKit, HelpStep, HelpWalk, MarkW, DistM, NextM, StepsM, WalkM, MatchM, AutS. -/
import Derived.Test.YtlhpcknpjdeebaaPartNEFHKDJH
import Derived.Test.YtlhpcknpjdeebaaPartJMJACPBF
import Derived.Test.YtlhpcknpjdeebaaPartLOMEEABO
/- Rows of rows of the call's own, told by the blocks that they hold: an outer row of slices, each of them a row of its own, no two in one block. Over any program. -/
namespace Go.Proofs.Ytlhpcknpjdeebaa
set_option linter.unusedVariables false
set_option linter.unusedSimpArgs false
open Go.ChangeShapes Go.WideShapes Go.ChangeAt Go.RowKit

section
variable {H b o : Nat} {w : World}
theorem SlC.intA {xs : List Int} (h : SlC H w cI 1 (some ⟨b, o, none⟩) xs) {i : Nat} {x : Int} (hx : xs[i]? = some x) : b < H ∧ w.cell? ⟨b, o + i, none⟩ = some (.int .i64 x) := by
  obtain ⟨b', o', e, h1, h2⟩ := h.int hx
  injection e with e
  injection e with e1 e2
  subst e1 e2
  exact ⟨h1, h2⟩
theorem SlC.natA {xs : List Nat} (h : SlC H w cN 1 (some ⟨b, o, none⟩) xs) {i : Nat} {x : Nat} (hx : xs[i]? = some x) : b < H ∧ w.cell? ⟨b, o + i, none⟩ = some (.int .i64 (x : Int)) := by
  obtain ⟨b', o', e, h1, h2⟩ := h.nat hx
  injection e with e
  injection e with e1 e2
  subst e1 e2
  exact ⟨h1, h2⟩
theorem SlC.stA {xs : List St} (h : SlC H w cSt 2 (some ⟨b, o, none⟩) xs) {i : Nat} {x : St} (hx : xs[i]? = some x) : b < H ∧ w.cell? ⟨b, o + i * 2, none⟩ = some (.int .i64 x.1) ∧ w.cell? ⟨b, o + i * 2 + 1, none⟩ = some (.bool x.2) := by
  obtain ⟨b', o', e, h1, h2, h3⟩ := h.st hx
  injection e with e
  injection e with e1 e2
  subst e1 e2
  exact ⟨h1, h2, h3⟩
end
theorem flatCV (l : List Value) : l.flatMap cV = l := by
  induction l with
  | nil => rfl
  | cons x l ih => rw [List.flatMap_cons, ih]; rfl
/-- the blocks that slices hold -/
abbrev blks (us : List Value) : List Nat := us.filterMap Value.ownBlock
structure NS {α : Type} (lo : Nat) (w : World) (oT eT : TypeId) (E : α → List Value) (k : Nat) (v : Value) (us : List Value) (xss : List (List α)) : Prop where
  own : w.ownsRow lo oT 1 v us.length (us.flatMap cV)
  len : us.length = xss.length
  rows : ∀ (i : Nat) (u : Value) (xs : List α), us[i]? = some u → xss[i]? = some xs → w.ownsRow lo eT k u xs.length (xs.flatMap E)
  dis : (blks (v :: us)).Nodup
section
variable {α : Type} {lo : Nat} {w w' : World} {oT eT : TypeId} {E : α → List Value} {k : Nat} {v : Value} {us : List Value} {xss : List (List α)}
theorem mem_blks {us : List Value} {b : Nat} : b ∈ blks us ↔ ∃ (i : Nat) (u : Value), us[i]? = some u ∧ u.ownBlock = some b := by
  rw [List.mem_filterMap]
  constructor
  · rintro ⟨u, hu, hb⟩
    obtain ⟨i, hi⟩ := List.getElem?_of_mem hu
    exact ⟨i, u, hi, hb⟩
  · rintro ⟨i, u, hu, hb⟩
    exact ⟨u, List.mem_of_getElem? hu, hb⟩
theorem NS.lt (h : NS lo w oT eT E k v us xss) : ∀ b ∈ blks (v :: us), lo ≤ b ∧ b < w.heap.size := by
  intro b hb
  obtain ⟨i, u, hu, hbu⟩ := mem_blks.1 hb
  cases i with
  | zero =>
    simp only [List.getElem?_cons_zero, Option.some.injEq] at hu
    subst hu
    exact h.own.lt b hbu
  | succ i =>
    rw [List.getElem?_cons_succ] at hu
    have hi : i < xss.length := by rw [← h.len]; exact (List.getElem?_eq_some_iff.1 hu).1
    exact (h.rows i u _ hu (List.getElem?_eq_getElem hi)).lt b hbu
theorem NS.blocks (h : NS lo w oT eT E k v us xss) (hb : ∀ b ∈ blks (v :: us), w'.heap[b]? = w.heap[b]?) : NS lo w' oT eT E k v us xss :=
  ⟨ownsRow_block h.own fun g hg => hb g (mem_blks.2 ⟨0, v, rfl, hg⟩), h.len,
    fun i u xs hu hx => ownsRow_block (h.rows i u xs hu hx) fun g hg => hb g (mem_blks.2 ⟨i + 1, u, by simpa using hu, hg⟩), h.dis⟩
theorem NS.below (h : NS lo w oT eT E k v us xss) (hb : Below w.heap.size w w') : NS lo w' oT eT E k v us xss := h.blocks fun b hm => hb.block b (h.lt b hm).2
theorem NS.mono (h : NS lo w oT eT E k v us xss) {lo' : Nat} (hl : lo' ≤ lo) : NS lo' w oT eT E k v us xss :=
  ⟨ownsRow_mono h.own hl, h.len, fun i u xs hu hx => ownsRow_mono (h.rows i u xs hu hx) hl, h.dis⟩
theorem NS.start (h : w.ownsRow lo oT 1 v 0 []) : NS lo w oT eT E k v [] ([] : List (List α)) :=
  ⟨h, rfl, fun i u xs hu _ => by simp at hu, by cases hv : v.ownBlock <;> simp [hv]⟩
theorem NS.push (h : NS lo w oT eT E k v us xss) {u : Value} {xs : List α} (hu : w.ownsRow lo eT k u xs.length (xs.flatMap E)) (hn : ∀ b, u.ownBlock = some b → b ∉ blks (v :: us))
    {v' : Value} (hg : w.grownBy w' v.ownBlock) (hr : w'.ownsRow lo oT 1 v' (us ++ [u]).length ((us ++ [u]).flatMap cV)) (hat : ∀ g, v'.ownBlock = some g → v.ownBlock = some g ∨ w.heap.size ≤ g) :
    NS lo w' oT eT E k v' (us ++ [u]) (xss ++ [xs]) := by
  have hdis := h.dis
  have hkeep : ∀ (u' : Value) (n : Nat) (cs : List Value), w.ownsRow lo eT k u' n cs → (∀ b, u'.ownBlock = some b → v.ownBlock ≠ some b) → w'.ownsRow lo eT k u' n cs := fun u' n cs ho hne => by
    refine ho.kept hg ?_
    cases hb : u'.ownBlock with
    | none => exact .inl rfl
    | some b => exact .inr fun e => hne b hb e.symm
  have hv0 : ∀ b, v.ownBlock = some b → b ∉ blks us := fun b hb => by
    rw [blks, List.filterMap_cons, hb] at hdis
    exact (List.nodup_cons.1 hdis).1
  refine ⟨hr, by simp [h.len], fun i u' xs' hi hx => ?_, ?_⟩
  · rcases Nat.lt_or_ge i us.length with hlt | hge
    · rw [List.getElem?_append_left hlt] at hi
      rw [List.getElem?_append_left (by rw [← h.len]; exact hlt)] at hx
      exact hkeep _ _ _ (h.rows i u' xs' hi hx) fun b hb hvb => hv0 b hvb (mem_blks.2 ⟨i, u', hi, hb⟩)
    · have hi2 := (List.getElem?_eq_some_iff.1 hi).1
      simp only [List.length_append, List.length_singleton] at hi2
      obtain rfl : i = us.length := by omega
      have e1 : u = u' := by simpa using hi
      have e2 : xs = xs' := by rw [h.len] at hx; simpa using hx
      subst e1 e2
      exact hkeep _ _ _ hu fun b hb hvb => hn b hb (mem_blks.2 ⟨0, v, rfl, hvb⟩)
  · have hlt := h.lt
    have hus : (blks us).Nodup := by
      cases hv : v.ownBlock with
      | none => simpa [blks, List.filterMap_cons, hv] using hdis
      | some b => rw [blks, List.filterMap_cons, hv] at hdis; exact (List.nodup_cons.1 hdis).2
    have hnu : ∀ b, u.ownBlock = some b → b ∉ blks us := fun b hb hm => hn b hb (by
      obtain ⟨i, u', h1, h2⟩ := mem_blks.1 hm
      exact mem_blks.2 ⟨i + 1, u', by simpa using h1, h2⟩)
    have hall : (blks (us ++ [u])).Nodup := by
      rw [blks, List.filterMap_append]
      cases hub : u.ownBlock with
      | none => simpa [List.filterMap_cons, hub] using hus
      | some b =>
        rw [List.filterMap_cons, hub]
        refine List.nodup_append.2 ⟨hus, by simp, ?_⟩
        intro x hx y hy e
        simp only [List.filterMap_nil, List.mem_cons, List.not_mem_nil, or_false] at hy
        subst hy
        subst e
        exact hnu _ hub hx
    rw [blks, List.filterMap_cons]
    cases hv' : v'.ownBlock with
    | none => exact hall
    | some g =>
      refine List.nodup_cons.2 ⟨fun hm => ?_, hall⟩
      obtain ⟨i, u', hi, hb⟩ := mem_blks.1 hm
      rcases Nat.lt_or_ge i us.length with hl | hge
      · rw [List.getElem?_append_left hl] at hi
        rcases hat g hv' with h1 | h1
        · exact hv0 g h1 (mem_blks.2 ⟨i, u', hi, hb⟩)
        · have := (hlt g (mem_blks.2 ⟨i + 1, u', by simpa using hi, hb⟩)).2
          omega
      · have hi2 := (List.getElem?_eq_some_iff.1 hi).1
        simp only [List.length_append, List.length_singleton] at hi2
        obtain rfl : i = us.length := by omega
        have e1 : u = u' := by simpa using hi
        subst e1
        rcases hat g hv' with h1 | h1
        · exact hn g hb (mem_blks.2 ⟨0, v, rfl, h1⟩)
        · have := (hu.lt g hb).2
          omega
theorem grown_alloc {o : Obj} {row : Option Nat} (h : (w.alloc o).grownBy w' row) : w.grownBy w' row :=
  ⟨h.os, h.tape, h.output, Nat.le_trans (by simp) h.size, fun n hn hne => (h.block n (by simp; omega) hne).trans (Below.heap_alloc w o n hn)⟩
/-- what is read of it: the header of row i, and the row -/
theorem NS.row (h : NS lo w oT eT E k v us xss) (hE : ∀ x, (E x).length = k) {i : Nat} {xs : List α} (hx : xss[i]? = some xs) :
    ∃ g cap A c, v = .slice (some ⟨g, 0, none⟩) xss.length cap ∧ us[i]? = some (.slice A xs.length c) ∧ g < w.heap.size ∧ w.cell? ⟨g, i, none⟩ = some (.slice A xs.length c) ∧ xs.length ≤ c ∧ c ≤ maxLen ∧ SlI lo w.heap.size w E k (.slice A xs.length c) xs := by
  have hi : i < us.length := by rw [h.len]; exact (List.getElem?_eq_some_iff.1 hx).1
  have hu : us[i]? = some us[i] := List.getElem?_eq_getElem hi
  have hr := h.rows i _ xs hu hx
  generalize us[i] = u at hu hr
  have hsl := (Own.of_row (xs := xs) hr rfl rfl).sl hE
  have hsl' := hsl
  obtain ⟨A, c, rfl, hl, hm, -⟩ := hsl'
  have hown := h.own
  have hlt := h.own.lt
  rw [flatCV] at hown
  have hown2 := hown
  obtain ⟨h1, h2⟩ := hown2
  rcases h2 with ⟨rfl, h3⟩ | ⟨g, cap, cur, rfl, r⟩
  · omega
  · refine ⟨g, cap, A, c, by rw [h.len], hu, (hlt g rfl).2, ?_, hl, hm, hsl⟩
    rw [World.ownsRow.cellAt hown i (by omega)]
    exact hu
theorem NS.at (h : NS lo w oT eT E k v us xss) (hE : ∀ x, (E x).length = k) {g n cap : Nat} (hv : v = .slice (some ⟨g, 0, none⟩) n cap) {i : Nat} {xs : List α} (hx : xss[i]? = some xs) :
    ∃ A c, w.cell? ⟨g, i, none⟩ = some (.slice A xs.length c) ∧ xs.length ≤ c ∧ c ≤ 9223372036854775807 ∧ SlI lo w.heap.size w E k (.slice A xs.length c) xs := by
  obtain ⟨g', cap', A, c, hv', -, -, hc, h1, h2, h3⟩ := h.row hE hx
  rw [hv] at hv'
  injection hv' with e1 _ _
  injection e1 with e1
  injection e1 with e1
  subst e1
  exact ⟨A, c, hc, h1, h2, h3⟩
/-- a row that is not empty has a block of its own -/
theorem own_some {W : World} {base k n : Nat} {e : TypeId} {v : Value} {cs : List Value} (h : W.ownsRow base e k v n cs) (hn : n ≠ 0) : ∃ g c, v = .slice (some ⟨g, 0, none⟩) n c ∧ base ≤ g ∧ g < W.heap.size ∧ n ≤ c ∧ c ≤ 9223372036854775807 := by
  have hlt := h.lt
  obtain ⟨h1, h2⟩ := h
  rcases h2 with ⟨rfl, h3⟩ | ⟨g, cap, cur, rfl, h4, h5, h6, h7, r⟩
  · exact absurd h3 hn
  · exact ⟨g, cap, rfl, h4, (hlt g rfl).2, h6, h7⟩
theorem NS.shape (h : NS lo w oT eT E k v us xss) : ∃ A c, v = .slice A xss.length c ∧ xss.length ≤ c ∧ c ≤ maxLen := by
  obtain ⟨h1, h2⟩ := h.own
  rcases h2 with ⟨rfl, h3⟩ | ⟨g, cap, cur, rfl, h4, h5, h6, h7, r⟩
  · exact ⟨none, 0, by rw [← h.len, h3], by rw [← h.len, h3]; exact Nat.le_refl _, by unfold maxLen; omega⟩
  · exact ⟨_, cap, by rw [h.len], by rw [← h.len]; exact h6, h7⟩
end
end Go.Proofs.Ytlhpcknpjdeebaa

/- Words for laws whose results lie in memory: what is owned outlives marks elsewhere; rows of rows are marked whatever the order of their blocks. -/
namespace Go.Proofs.Ytlhpcknpjdeebaa
set_option linter.unusedVariables false
set_option linter.unusedSimpArgs false
open Go.ChangeShapes Go.WideShapes Go.ChangeAt Go.RowKit
attribute [local go_sem] ext_cell ext_frozen ext_lt ext_lt1 ext_lt2 ext_lt3 ltn2 ltn3 ltn13 lts1 lts2 lts3

theorem GrO.only {lo hi : Nat} {w w' : World} {v : Value} {g : Gr} (h : GrO lo hi w v g) {l r : Nat} (hb : Only l r w w') (ho : hi ≤ l ∨ r ≤ lo) : GrO lo hi w' v g := by
  obtain ⟨vs, es, mid, rfl, h1, h2, h3, h4⟩ := h
  exact ⟨vs, es, mid, rfl, h1.only hb (by omega), h2.only hb (by omega), h3, h4⟩
theorem AuO.only {lo hi : Nat} {w w' : World} {v : Value} {a : Au} (h : AuO lo hi w v a) {l r : Nat} (hb : Only l r w w') (ho : hi ≤ l ∨ r ≤ lo) : AuO lo hi w' v a := by
  obtain ⟨ac, nx, mid, rfl, h1, h2, h3, h4⟩ := h
  exact ⟨ac, nx, mid, rfl, h1.only hb (by omega), h2.only hb (by omega), h3, h4⟩

theorem ownsRow_base {w : World} {base b k n : Nat} {e : TypeId} {v : Value} {cs : List Value} (hb : ∀ g, v.ownBlock = some g → b ≤ g) (h : w.ownsRow base e k v n cs) : w.ownsRow b e k v n cs := by
  obtain ⟨hl, hs⟩ := h
  rcases hs with ⟨rfl, hn⟩ | ⟨g, cap, cur, rfl, hg, r⟩
  · exact ⟨hl, .inl ⟨rfl, hn⟩⟩
  · exact ⟨hl, .inr ⟨g, cap, cur, rfl, hb g rfl, r⟩⟩
theorem filterMap_inj {α β : Type} {f : α → Option β} {L : List α} (h : (L.filterMap f).Nodup) {i j : Nat} {x y : α} (hi : L[i]? = some x) (hj : L[j]? = some y) {b : β} (hx : f x = some b) (hy : f y = some b) : i = j := by
  have hp := List.pairwise_filterMap.1 h
  rw [List.pairwise_iff_getElem] at hp
  obtain ⟨hi1, hi2⟩ := List.getElem?_eq_some_iff.1 hi
  obtain ⟨hj1, hj2⟩ := List.getElem?_eq_some_iff.1 hj
  rcases Nat.lt_trichotomy i j with hl | he | hg
  · exact absurd rfl (hp i j hi1 hj1 hl b (by rw [hi2]; exact hx) b (by rw [hj2]; exact hy))
  · exact he
  · exact absurd rfl (hp j i hj1 hi1 hg b (by rw [hj2]; exact hy) b (by rw [hi2]; exact hx))
theorem NS.turn {α : Type} {lo : Nat} {w w' : World} {oT eT : TypeId} {E : α → List Value} {k : Nat} {v : Value} {us : List Value} {xss : List (List α)} (h : NS lo w oT eT E k v us xss) {i : Nat} {u : Value} {xs' : List α} (hu : us[i]? = some u)
    (hr : w'.ownsRow lo eT k u xs'.length (xs'.flatMap E)) (hb : ∀ b ∈ blks (v :: us), u.ownBlock ≠ some b → w'.heap[b]? = w.heap[b]?) : NS lo w' oT eT E k v us (xss.set i xs') := by
  have hdis := h.dis
  refine ⟨ownsRow_block h.own fun g hg => hb g (mem_blks.2 ⟨0, v, rfl, hg⟩) fun e => ?_, by simp [h.len], fun j u2 xs2 hj hx => ?_, hdis⟩
  · have := filterMap_inj (i := 0) (j := i + 1) hdis rfl (by simpa using hu) hg e
    omega
  · by_cases hij : i = j
    · subst hij
      rw [hu] at hj
      injection hj with hj
      subst hj
      have hl := (List.getElem?_eq_some_iff.1 hx).1
      rw [List.length_set] at hl
      rw [List.getElem?_set_self hl] at hx
      injection hx with hx
      subst hx
      exact hr
    · rw [List.getElem?_set_ne hij] at hx
      refine ownsRow_block (h.rows j u2 xs2 hj hx) fun g hg => hb g (mem_blks.2 ⟨j + 1, u2, by simpa using hj, hg⟩) fun e => ?_
      have := filterMap_inj (i := i + 1) (j := j + 1) hdis (by simpa using hu) (by simpa using hj) e hg
      omega
/-- an owned row lies in its own block alone -/
theorem own_tight {α : Type} {E : α → List Value} {w : World} {base k : Nat} {e : TypeId} {v : Value} {xs : List α} (h : w.ownsRow base e k v xs.length (xs.flatMap E)) :
    ∃ l r, Own l r w e E k v xs ∧ (∀ b, l ≤ b → b < r → v.ownBlock = some b) ∧ (l < r → base ≤ l ∧ r ≤ w.heap.size) := by
  have hlt := h.lt
  obtain ⟨hl, hs⟩ := h
  rcases hs with ⟨rfl, hn⟩ | ⟨g, cap, cur, rfl, hg, hh, rr⟩
  · exact ⟨0, 0, ⟨⟨hl, .inl ⟨rfl, hn⟩⟩, by intro g hg; cases hg⟩, by intro b _ hb; omega, by omega⟩
  · have h2 := hlt g rfl
    refine ⟨g, g + 1, ⟨⟨hl, .inr ⟨g, cap, cur, rfl, Nat.le_refl _, hh, rr⟩⟩, by intro b hb; injection hb with hb; subst hb; exact Nat.lt_succ_self _⟩, fun b h1 h2 => ?_, fun _ => by omega⟩
    obtain rfl : b = g := by omega
    rfl

/-- rows of rows whose blocks all lie from lo to hi -/
def NSO (lo hi : Nat) (w : World) (v : Value) (xss : List (List Int)) : Prop :=
  ∃ us, NS lo w 22 3 cI 1 v us xss ∧ ∀ b ∈ blks (v :: us), b < hi
section
variable {lo hi : Nat} {w w' : World} {v : Value} {xss : List (List Int)}
theorem NSO.of {us : List Value} (h : NS lo w 22 3 cI 1 v us xss) : NSO lo w.heap.size w v xss := ⟨us, h, fun b hb => (h.lt b hb).2⟩
theorem NSO.view (h : NSO lo hi w v xss) : SSV lo hi w v xss := by
  obtain ⟨us, h, hl⟩ := h
  refine ⟨us, Own.sl ⟨h.own, fun g hg => hl g (mem_blks.2 ⟨0, v, rfl, hg⟩)⟩ cV_len, h.len, fun i u xs hu hx => ?_⟩
  exact Own.sl ⟨h.rows i u xs hu hx, fun g hg => hl g (mem_blks.2 ⟨i + 1, u, by simpa using hu, hg⟩)⟩ cI_len
theorem NSO.below (h : NSO lo hi w v xss) {B : Nat} (hb : Below B w w') (hB : hi ≤ B) : NSO lo hi w' v xss := by
  obtain ⟨us, h, hl⟩ := h
  exact ⟨us, h.blocks fun b hm => hb.block b (by have := hl b hm; omega), hl⟩
theorem NSO.only (h : NSO lo hi w v xss) {l r : Nat} (hb : Only l r w w') (ho : hi ≤ l ∨ r ≤ lo) : NSO lo hi w' v xss := by
  obtain ⟨us, h, hl⟩ := h
  exact ⟨us, h.blocks fun b hm => hb.block b (h.lt b hm).2 (by have := hl b hm; have := (h.lt b hm).1; omega), hl⟩
theorem NSO.mono (h : NSO lo hi w v xss) {lo' hi' : Nat} (h1 : lo' ≤ lo) (h2 : hi ≤ hi') : NSO lo' hi' w v xss := by
  obtain ⟨us, h, hl⟩ := h
  exact ⟨us, h.mono h1, fun b hb => by have := hl b hb; omega⟩
end

set_option maxHeartbeats 1000000 in
theorem markNS_any (lo hi : Nat) (v : Value) (xss : List (List Int)) (k : Int) (w : World) (hv : NSO lo hi w v xss) (hk : 0 ≤ k) (hb : k + sumLen xss ≤ 4611686018427387904) (hhi : hi ≤ w.heap.size) :
    Calls Try.prog 57 #[v, .int .i64 k] w fun en w' => en = .returned (.int .i64 (k + sumLen xss)) ∧ NSO lo hi w' v (mkSS k xss) ∧ Only lo hi w w' := by
  obtain ⟨us, hns, hlt⟩ := hv
  obtain ⟨A, c, rfl, hl, hm⟩ := hns.shape
  have HNS0 := Lib.hid hns
  have HLT := Lib.hid hlt
  unfold maxLen at hm
  have hz := fun i => sumLen_take_le xss i
  clear hns hlt
  go_enter Try.func57, Try.ntmps57
  go_wp2
  go_loopw [1, 5] (fun kk ii wr => ∃ i : Nat, i ≤ xss.length ∧ kk = .int .i64 (k + sumLen (xss.take i)) ∧ ii = .int .i64 i ∧ NS lo wr 22 3 cI 1 (.slice A xss.length c) us (mkSS k (xss.take i) ++ xss.drop i) ∧ Only lo hi w wr) (fun _ ii _ => xss.length - (intOf ii).toNat)
  case atStart => exact ⟨0, Nat.zero_le _, by simp [sumLen], rfl, by simpa [mkSS] using HNS0.out, Only.refl _ _ _⟩
  case round =>
    obtain ⟨i, hi', rfl, rfl, hns, honly⟩ := hrel
    have HNS := Lib.hid hns
    clear hns
    by_cases hlt : i < xss.length
    · have hxi : xss[i]? = some xss[i] := List.getElem?_eq_getElem hlt
      have hd2 := List.drop_eq_getElem_cons hlt
      have hz1 := hz i
      have hz2 := hz (i + 1)
      have ht2 : xss.take (i + 1) = xss.take i ++ [xss[i]] := take_snoc hxi
      generalize xss[i] = xs at hd2 ht2 hxi
      have hmi : (mkSS k (xss.take i) ++ xss.drop i)[i]? = some xs := by
        rw [List.getElem?_append_right (by rw [mkSS_len, List.length_take]; omega), mkSS_len, List.length_take, hd2]
        simp [Nat.min_eq_left (Nat.le_of_lt hlt)]
      obtain ⟨g, cap, A1, c1, hv1, hui, hgl, hcell, -, -, -⟩ := HNS.out.row cI_len hmi
      have hri := HNS.out.rows i _ xs hui hmi
      injection hv1 with e1 e2 e3
      subst e1
      obtain ⟨l, r, hown, htight, hlr⟩ := own_tight hri
      have hri2 := hri.lt
      have hsum : sumLen (xss.take (i + 1)) = sumLen (xss.take i) + xs.length := by rw [ht2, sumLen_app]; simp [sumLen]
      have hmk : (mkSS k (xss.take i) ++ xss.drop i).set i (mkInt (k + sumLen (xss.take i)) xs.length) = mkSS k (xss.take (i + 1)) ++ xss.drop (i + 1) := by
        rw [ht2, mkSS_app, hd2, List.set_append_right _ _ (by rw [mkSS_len, List.length_take]; omega), mkSS_len, List.length_take, Nat.min_eq_left (Nat.le_of_lt hlt), Nat.sub_self]
        simp [mkSS]
      rw [hsum] at hz2
      have HS := Lib.hid hsum
      have HM := Lib.hid hmk
      have HUI := Lib.hid hui
      have HT := Lib.hid htight
      have HLR := Lib.hid hlr
      have HOWN := Lib.hid hown
      have hcell : wr.cell? ⟨g, i, none⟩ = some (.slice A1 xs.length c1) := hcell
      have hsw := honly.size
      have hhi2 : hi ≤ wr.heap.size := by omega
      have hrb : l < r → lo ≤ l ∧ r ≤ hi := fun h => ⟨(hlr h).1, by
        have := htight (r - 1) (by omega) (by omega)
        have := HLT.out (r - 1) (mem_blks.2 ⟨i + 1, _, by simpa using hui, this⟩)
        omega⟩
      have HRB := Lib.hid hrb
      clear hxi hd2 ht2 hmi hui hri hri2 hsum hmk hz htight hlr hown e2 e3 hrb
      go_wp2_with fail
      refine (markIntS_any l r _ _ xs (k + sumLen (xss.take i)) _ HOWN.out (by omega) (by omega)).mono ?_
      rintro e w2 ⟨rfl, ho2, hon2⟩
      go_wp2_with fail
      go_roundw
      case rel =>
        refine ⟨i + 1, by omega, ?_, by go_num, ?_, ?_⟩
        · rw [HS.out]; go_num
        · rw [← HM.out]
          refine HNS.out.turn HUI.out ?_ fun b hm hne => hon2.block b (HNS.out.lt b hm).2 ?_
          · refine ownsRow_base ?_ ho2.1
            intro g hg
            rcases Nat.lt_or_ge l r with h | h
            · have := HRB.out h
              have := ho2.lt g hg
              omega
            · have := ho2.lt g hg
              omega
          · rcases Nat.lt_or_ge b l with h | h
            · exact .inl h
            · rcases Nat.lt_or_ge b r with h2 | h2
              · exact absurd (HT.out b h h2) hne
              · exact .inr h2
        · rcases Nat.lt_or_ge l r with h | h
          · exact honly.trans (hon2.mono (HRB.out h).1 (HRB.out h).2)
          · exact honly.trans ⟨hon2.os, hon2.tape, hon2.output, hon2.size, fun n hn _ => hon2.block n hn (by omega)⟩
      case measure => simp [intOf]; omega
    · obtain rfl : i = xss.length := by omega
      rw [List.take_length, List.drop_length, List.append_nil] at HNS
      clear hz
      go_wp2_with fail
      go_ret
      exact ⟨ret_int (by simp), ⟨us, HNS.out, HLT.out⟩, honly⟩
end Go.Proofs.Ytlhpcknpjdeebaa

/- Step in the laws' helpers: equal lists are told equal; marking, looking, copying, measuring. -/
namespace Go.Proofs.Ytlhpcknpjdeebaa
set_option linter.unusedVariables false
set_option linter.unusedSimpArgs false
open Go.ChangeShapes Go.WideShapes Go.ChangeAt Go.RowKit
attribute [local go_sem] ext_cell ext_frozen ext_lt ext_lt1 ext_lt2 ext_lt3 ltn2 ltn3 ltn13 lts1 lts2 lts3

theorem eqStep_same (p : St) (w : World) :
    Calls Try.prog 78 #[.agg #[.int .i64 p.1, .bool p.2], .agg #[.int .i64 p.1, .bool p.2]] w fun e w' => e = .returned (.bool true) ∧ Below w.heap.size w w' := by
  obtain ⟨a0, a1⟩ := p
  go_enter Try.func78, Try.ntmps78
  go_wp2
  go_ret
  refine ⟨rfl, ?_⟩
  repeat (first | exact Below.refl _ _ | refine Below.alloc ?_ (by simp) _)
set_option maxHeartbeats 400000 in
theorem eqStepS_same (v1 v2 : Value) (xs : List St) (w : World) (hv1 : SlE w cSt 2 v1 xs) (hv2 : SlE w cSt 2 v2 xs) :
    Calls Try.prog 49 #[v1, v2] w fun e w' => e = .returned (.bool true) ∧ Below w.heap.size w w' := by
  obtain ⟨A1, c1, rfl, hl1, hm1, hx1⟩ := hv1
  obtain ⟨A2, c2, rfl, hl2, hm2, hx2⟩ := hv2
  unfold maxLen at hm1 hm2
  go_enter Try.func49, Try.ntmps49
  go_wp2
  go_loopw [5] (fun i wr => ∃ (k : Nat) (u : World), k ≤ xs.length ∧ i = .int .i64 k ∧ wr = ext w u) (fun i _ => xs.length - (intOf i).toNat)
  case atStart => exact ⟨0, w, Nat.zero_le _, rfl, ext_self w⟩
  case round =>
    obtain ⟨k, u, hk, rfl, rfl⟩ := hrel
    by_cases hlt : k < xs.length
    · obtain ⟨b1, o1, rfl, -, hb1, hc1⟩ := hx1 k xs[k] (List.getElem?_eq_getElem hlt)
      obtain ⟨b2, o2, rfl, -, hb2, hc2⟩ := hx2 k xs[k] (List.getElem?_eq_getElem hlt)
      generalize xs[k] = x at hc1 hc2
      have c10 := hc1 0 _ rfl
      have c11 := hc1 1 _ rfl
      have c20 := hc2 0 _ rfl
      have c21 := hc2 1 _ rfl
      simp only [Nat.add_zero] at c10 c20
      clear hc1 hc2 hx1 hx2
      go_wp2
      refine wp_region_ext_lit (by kernel_rfl) (by kernel_rfl) ?_
      repeat (go_big_quiet_step ((go_at_call 78; exact Calls.ext_of (eqStep_same x _))))
      refine wpQuiet_nil ?_
      intro _ hw'
      obtain ⟨u2, hw''⟩ := hw'
      subst hw''
      go_wp2
      go_roundw
      case rel =>
        obtain ⟨y, hy⟩ := ext_ext w u u2
        exact ⟨k + 1, y, by omega, by go_num, hy⟩
      case measure => simp [intOf]; omega
    · go_wp2
      go_ret
      exact ⟨rfl, ext_below _ _⟩
def mkStep (k : Int) (n : Nat) : List St := (List.range n).map fun (i : Nat) => (k + 2 * (i : Int), ((k + 2 * (i : Int) + 1) % 3 == 0))
theorem mkStep_len (k : Int) (n : Nat) : (mkStep k n).length = n := by simp [mkStep]
theorem mkStep_succ (k : Int) (i : Nat) : mkStep k (i + 1) = mkStep k i ++ [(k + 2 * (i : Int), ((k + 2 * (i : Int) + 1) % 3 == 0))] := by simp [mkStep, List.range_succ]
theorem mkStep_at (k : Int) {n i : Nat} (h : i < n) : (mkStep k n)[i]? = some (k + 2 * (i : Int), ((k + 2 * (i : Int) + 1) % 3 == 0)) := by simp [mkStep, h]
theorem flatStep_len (l : List St) : (l.flatMap cSt).length = l.length * 2 := by
  induction l with
  | nil => rfl
  | cons x l ih => simp only [List.flatMap_cons, List.length_append, cSt_len, ih, List.length_cons]; omega
theorem markStep_step (k : Int) (xs : List St) (i : Nat) (hi : i < xs.length) :
    ((((mkStep k i ++ xs.drop i).flatMap cSt).set (i * 2) (.int .i64 (k + 2 * (i : Int)))).set (i * 2 + 1) (.bool (((k + 2 * (i : Int) + 1) % 3 == 0)))) = (mkStep k (i + 1) ++ xs.drop (i + 1)).flatMap cSt := by
  rw [List.drop_eq_getElem_cons hi, mkStep_succ]
  have hl : ((mkStep k i).flatMap cSt).length = i * 2 := by rw [flatStep_len, mkStep_len]
  simp only [List.flatMap_append, List.flatMap_cons, List.flatMap_nil, List.append_nil, List.append_assoc]
  rw [List.set_append_right _ _ (by omega), List.set_append_right _ _ (by omega), hl]
  simp [cSt]
set_option maxHeartbeats 4000000 in
theorem markStepS_any (lo hi : Nat) (e : TypeId) (v : Value) (xs : List St) (k : Int) (w : World) (hv : Own lo hi w e cSt 2 v xs) (hk : 0 ≤ k) (hb : k + 2 * xs.length ≤ 4611686018427387904) :
    Calls Try.prog 58 #[v, .int .i64 k] w fun en w' => en = .returned (.int .i64 (k + 2 * xs.length)) ∧ Own lo hi w' e cSt 2 v (mkStep k xs.length) ∧ Only lo hi w w' := by
  obtain ⟨hr, hlt⟩ := hv
  have hr0 := hr
  obtain ⟨hl, hs⟩ := hr0
  rcases hs with ⟨rfl, hn⟩ | ⟨g, cap, cur, rfl, hg, hh, hnc, hcm, hsz, htk⟩
  · obtain rfl : xs = [] := List.eq_nil_of_length_eq_zero hn
    clear hl hr hn hlt
    go_enter Try.func58, Try.ntmps58
    go_wp2
    go_loopw [1, 5] (fun kk ii wr => kk = .int .i64 k ∧ ii = .int .i64 0 ∧ wr = w) (fun _ _ _ => 0)
    case atStart => exact ⟨rfl, rfl, rfl⟩
    case round =>
      obtain ⟨rfl, rfl, rfl⟩ := hrel
      go_wp2
      go_ret
      exact ⟨by simp, by simpa [mkStep] using Own.nil lo hi wr e cSt 2, Only.refl _ _ _⟩
  · have hglt := hlt g rfl
    unfold maxLen at hcm
    have HL := Lib.hid hl
    clear hh htk hsz hlt hl
    go_enter Try.func58, Try.ntmps58
    go_wp2
    go_loopw [1, 5] (fun kk ii wr => ∃ i : Nat, i ≤ xs.length ∧ kk = .int .i64 (k + 2 * i) ∧ ii = .int .i64 i ∧ wr.ownsRow lo e 2 (.slice (some ⟨g, 0, none⟩) xs.length cap) xs.length ((mkStep k i ++ xs.drop i).flatMap cSt) ∧ Only lo hi w wr) (fun _ ii _ => xs.length - (intOf ii).toNat)
    case atStart => exact ⟨0, Nat.zero_le _, by simp, rfl, by simpa [mkStep] using hr, Only.refl _ _ _⟩
    case round =>
      obtain ⟨i, hi', rfl, rfl, hrow, honly⟩ := hrel
      by_cases hlt : i < xs.length
      · have hrow0 := hrow
        have hc0 := World.ownsRow.cellAt hrow (i * 2) (by omega)
        have hf0 := World.ownsRow.frozenAt hrow (i * 2)
        have hc1 := World.ownsRow.cellAt hrow (i * 2 + 1) (by omega)
        have hf1 := World.ownsRow.frozenAt hrow (i * 2 + 1)
        have hst := (World.ownsRow.stored (World.ownsRow.stored hrow0 (i * 2) (.int .i64 (k + 2 * (i : Int)))).1 (i * 2 + 1) (.bool (((k + 2 * (i : Int) + 1) % 3 == 0)))).1
        rw [markStep_step k xs i hlt] at hst
        have HST := Lib.hid hst
        have hxi : (mkStep k i ++ xs.drop i)[i]? = some xs[i] := by
          rw [List.getElem?_append_right (by simp [mkStep_len]), mkStep_len]; simp [hlt]
        have hcx0 : ((mkStep k i ++ xs.drop i).flatMap cSt)[i * 2]? = some (.int .i64 xs[i].1) := flat_at cSt_len hxi 0 _ rfl
        rw [hcx0] at hc0
        have hcx1 : ((mkStep k i ++ xs.drop i).flatMap cSt)[i * 2 + 1]? = some (.bool xs[i].2) := flat_at cSt_len hxi 1 _ rfl
        rw [hcx1] at hc1
        clear hcx0 hcx1 hxi hst hrow hrow0 hr
        go_wp2
        go_roundw
        case rel => exact ⟨i + 1, by omega, by go_num, by go_num, HST.out, ((honly.setCell (.inl ⟨hg, hglt⟩) _).setCell (.inl ⟨hg, hglt⟩) _)⟩
        case measure => simp [intOf]; omega
      · obtain rfl : i = xs.length := by omega
        have hown : Own lo hi wr e cSt 2 (.slice (some ⟨g, 0, none⟩) xs.length cap) (mkStep k xs.length) := by
          refine ⟨?_, fun g' hg' => by cases hg'; exact hglt⟩
          rw [mkStep_len]
          simpa using hrow
        clear hrow hr
        go_wp2
        go_ret
        exact ⟨rfl, hown, honly⟩
set_option maxHeartbeats 4000000 in
theorem heldStepS_any (v : Value) (n : Nat) (k : Int) (w : World) (hv : SlE w cSt 2 v (mkStep k n)) (hk : 0 ≤ k) (hb : k + 2 * n ≤ 4611686018427387904) :
    Calls Try.prog 59 #[v, .int .i64 k] w fun en w' => en = .returned (.int .i64 (k + 2 * n)) ∧ Below w.heap.size w w' := by
  obtain ⟨A, c, rfl, hl, hm, hx⟩ := hv
  rw [mkStep_len] at hl
  simp only [mkStep_len]
  unfold maxLen at hm
  go_enter Try.func59, Try.ntmps59
  go_wp2
  go_loopw [1, 5] (fun kk ii wr => ∃ (i : Nat) (u : World), i ≤ n ∧ kk = .int .i64 (k + 2 * i) ∧ ii = .int .i64 i ∧ wr = ext w u) (fun _ ii _ => n - (intOf ii).toNat)
  case atStart => exact ⟨0, w, Nat.zero_le _, by simp, rfl, ext_self w⟩
  case round =>
    obtain ⟨i, u, hi', rfl, rfl, rfl⟩ := hrel
    by_cases hlt : i < n
    · obtain ⟨b, o, rfl, -, hb1, hc⟩ := hx i _ (mkStep_at k hlt)
      have c0 := hc 0 _ rfl
      have c1 := hc 1 _ rfl
      simp only [Nat.add_zero] at c0
      clear hc hx
      go_wp2
      go_roundw
      case rel => exact ⟨i + 1, u, by omega, by go_num, by go_num, rfl⟩
      case measure => simp [intOf]; omega
    · obtain rfl : i = n := by omega
      go_wp2
      go_ret
      exact ⟨rfl, ext_below _ _⟩
theorem toStep_any (p : St) (w : World) :
    Calls Try.prog 82 #[.agg #[.int .i64 p.1, .bool p.2]] w fun e w' => e = .returned (.agg #[.int .i64 p.1, .bool p.2]) ∧ Below w.heap.size w w' := by
  obtain ⟨a0, a1⟩ := p
  go_enter Try.func82, Try.ntmps82
  go_wp2
  refine bodyPost_ret (v := .agg #[.int .i64 a0, .bool a1]) (by simp [results, Try.results82, go_sem]) rfl ⟨rfl, ?_⟩
  repeat (first | exact Below.refl _ _ | refine Below.setCell ?_ (by simp <;> omega) _ | refine Below.alloc ?_ (by simp <;> omega) _)
theorem szStepS_any (A : Option Addr) (n c : Nat) (left : Int) (w : World) (hn : n ≤ maxLen) (h0 : 0 ≤ left) (h1 : left ≤ 1048576) :
    Calls Try.prog 60 #[.slice A n c, .int .i64 left] w fun e w' => e = .returned (.int .i64 (if left < n then -1 else left - n)) ∧ w' = w := by
  unfold maxLen at hn
  by_cases hlt : left < n
  · rw [if_pos hlt]
    go_enter Try.func60, Try.ntmps60
    go_wp2
    go_ret
    exact ⟨rfl, rfl⟩
  · rw [if_neg hlt]
    go_enter Try.func60, Try.ntmps60
    go_wp2
    go_ret
    exact ⟨rfl, rfl⟩
theorem elStep : ElemOk Try.prog 32 96 (.agg #[.int .i64 0, .bool false]) 2 16 := ⟨Try.underlying32, by kernel_rfl, rfl, by omega⟩
theorem toStep_step (xs : List St) (i : Nat) (x : St) (hx : xs[i]? = some x) :
    ((((xs.take i ++ List.replicate (xs.length - i) (0, false)).flatMap cSt).set (i * 2) (.int .i64 x.1)).set (i * 2 + 1) (.bool x.2)) = (xs.take (i + 1) ++ List.replicate (xs.length - (i + 1)) (0, false)).flatMap cSt := by
  have hi := (List.getElem?_eq_some_iff.1 hx).1
  rw [take_snoc hx, show xs.length - i = (xs.length - (i + 1)) + 1 by omega, List.replicate_succ]
  have hl : ((xs.take i).flatMap cSt).length = i * 2 := by rw [flatStep_len, List.length_take]; congr 1; omega
  simp only [List.flatMap_append, List.flatMap_cons, List.flatMap_nil, List.append_nil, List.append_assoc]
  rw [List.set_append_right _ _ (by omega), List.set_append_right _ _ (by omega), hl]
  simp [cSt]
set_option maxHeartbeats 1000000 in
theorem toStepS_any (v : Value) (xs : List St) (w : World) (hv : SlE w cSt 2 v xs) (hn : xs.length ≤ 1048576) :
    Calls Try.prog 62 #[v] w fun en w' => ∃ v', en = .returned v' ∧ Own w.heap.size w'.heap.size w' 96 cSt 2 v' xs ∧ Below w.heap.size w w' := by
  obtain ⟨A, c, rfl, hl, hm, hx⟩ := hv
  go_enter Try.func62, Try.ntmps62
  go_wp2_with (at_make; refine wpList_makeE (P := Try.prog) cSt (0, false) elStep rfl rfl rfl _ _ rfl w.heap.size xs.length _ (by rfl) (by rfl) rfl (by omega) (by unfold maxLen; omega) (Nat.le_refl _) ?_; intro w1 hrow1 hbel1)
  go_loopw [4] (fun ii wr => ∃ i : Nat, i ≤ xs.length ∧ ii = .int .i64 i ∧ wr.ownsRow w.heap.size 96 2 (.slice (some ⟨w.heap.size, 0, none⟩) xs.length xs.length) xs.length ((xs.take i ++ List.replicate (xs.length - i) (0, false)).flatMap cSt) ∧ Below w.heap.size w wr) (fun ii _ => xs.length - (intOf ii).toNat)
  case atStart => exact ⟨0, Nat.zero_le _, rfl, by simpa using hrow1, hbel1⟩
  case round =>
    obtain ⟨i, hi', rfl, hrow, hbel⟩ := hrel
    by_cases hlt : i < xs.length
    · have hxi : xs[i]? = some xs[i] := List.getElem?_eq_getElem hlt
      obtain ⟨b, o, rfl, -, hb1, hc⟩ := hx i _ hxi
      have hstep := toStep_step xs i _ hxi
      have hcur : (xs.take i ++ List.replicate (xs.length - i) (0, false))[i]? = some (0, false) := by
        rw [List.getElem?_append_right (by rw [List.length_take]; omega), List.getElem?_replicate, if_pos (by rw [List.length_take]; omega)]
      generalize xs[i] = x at hc hstep hxi
      have hs := hbel.size
      have c0 := (hbel.cell (p := ⟨b, o + i * 2 + 0, none⟩) hb1).trans (hc 0 _ rfl)
      have c1 := (hbel.cell (p := ⟨b, o + i * 2 + 1, none⟩) hb1).trans (hc 1 _ rfl)
      simp only [Nat.add_zero] at c0
      clear hc hx hxi hrow1 hbel1
      go_wp2_with fail
      refine (toStep_any x _).mono ?_; rintro e w2 ⟨rfl, hb2⟩
      have hrow2 := ownsRow_below hrow hb2 (Nat.le_refl _)
      have d0 := World.ownsRow.cellAt hrow2 (i * 2) (by omega)
      have f0 := World.ownsRow.frozenAt hrow2 (i * 2)
      have e0 := flat_at cSt_len hcur 0 _ rfl
      simp only [Nat.add_zero] at e0
      rw [e0] at d0
      clear e0
      have d1 := World.ownsRow.cellAt hrow2 (i * 2 + 1) (by omega)
      have f1 := World.ownsRow.frozenAt hrow2 (i * 2 + 1)
      have e1 := flat_at cSt_len hcur 1 _ rfl
      rw [e1] at d1
      clear e1
      have hst := (World.ownsRow.stored (World.ownsRow.stored hrow2 (i * 2) (.int .i64 x.1)).1 (i * 2 + 1) (.bool x.2)).1
      rw [hstep] at hst
      have HST := Lib.hid hst
      clear hst hstep hcur hrow hrow2
      go_wp2
      go_roundw
      case rel => exact ⟨i + 1, by omega, by go_num, HST.out, (((hbel.trans (hb2.mono hs)).setCell (Nat.le_refl _) _).setCell (Nat.le_refl _) _)⟩
      case measure => simp [intOf]; omega
    · obtain rfl : i = xs.length := by omega
      go_wp2
      go_ret
      exact ⟨_, rfl, Own.of_row hrow rfl (by simp), hbel⟩
end Go.Proofs.Ytlhpcknpjdeebaa

/- Walks in the laws' helpers: measured, copied, compared, marked, looked at. -/
namespace Go.Proofs.Ytlhpcknpjdeebaa
set_option linter.unusedVariables false
set_option linter.unusedSimpArgs false
open Go.ChangeShapes Go.WideShapes Go.ChangeAt Go.RowKit
attribute [local go_sem] ext_cell ext_frozen ext_lt ext_lt1 ext_lt2 ext_lt3 ltn2 ltn3 ltn13 lts1 lts2 lts3

def WkO (lo hi : Nat) (w : World) (v : Value) (k : Wk) : Prop :=
  ∃ ss, v = .agg #[.int .i64 k.1, ss] ∧ Own lo hi w 96 cSt 2 ss k.2
theorem WkO.view {lo hi : Nat} {w : World} {v : Value} {k : Wk} (h : WkO lo hi w v k) : WkV lo hi w v k := by
  obtain ⟨ss, rfl, h1⟩ := h
  exact ⟨ss, rfl, h1.sl cSt_len⟩
theorem WkO.below {lo hi : Nat} {w w' : World} {v : Value} {k : Wk} (h : WkO lo hi w v k) {B : Nat} (hb : Below B w w') (hB : hi ≤ B) : WkO lo hi w' v k := by
  obtain ⟨ss, rfl, h1⟩ := h
  exact ⟨ss, rfl, h1.below hb hB⟩
theorem WkO.only {lo hi : Nat} {w w' : World} {v : Value} {k : Wk} (h : WkO lo hi w v k) {l r : Nat} (hb : Only l r w w') (ho : hi ≤ l ∨ r ≤ lo) : WkO lo hi w' v k := by
  obtain ⟨ss, rfl, h1⟩ := h
  exact ⟨ss, rfl, h1.only hb ho⟩
theorem WkO.mono {lo hi : Nat} {w : World} {v : Value} {k : Wk} (h : WkO lo hi w v k) {lo' hi' : Nat} (h1 : lo' ≤ lo) (h2 : hi ≤ hi') : WkO lo' hi' w v k := by
  obtain ⟨ss, rfl, g1⟩ := h
  exact ⟨ss, rfl, g1.mono h1 h2⟩

theorem szWalk_any (v : Value) (k : Wk) (left : Int) (w : World) (hv : WkV 0 w.heap.size w v k) (h0 : 0 ≤ left) (h1 : left ≤ 1048576) :
    Calls Try.prog 20 #[v, .int .i64 left] w fun e w' => e = .returned (.int .i64 (if left < k.2.length then -1 else left - k.2.length)) ∧ Below w.heap.size w w' := by
  obtain ⟨ss, rfl, ⟨A1, c1, rfl, hl1, hm1, -⟩⟩ := hv
  have hc := szStepS_any A1 k.2.length c1 left
  by_cases g1 : left < k.2.length
  · rw [if_pos g1] at hc ⊢
    have HC := Lib.hid hc
    clear hc
    go_enter Try.func20, Try.ntmps20
    go_wp2_with fail
    refine (HC.out _ (by omega) h0 h1).mono ?_; rintro e w1 ⟨rfl, rfl⟩
    go_wp2
    go_ret
    exact ⟨rfl, (Below.refl _ _).alloc (Nat.le_refl _) _⟩
  · rw [if_neg g1] at hc ⊢
    have HC := Lib.hid hc
    clear hc
    go_enter Try.func20, Try.ntmps20
    go_wp2_with fail
    refine (HC.out _ (by omega) h0 h1).mono ?_; rintro e w1 ⟨rfl, rfl⟩
    go_wp2
    go_ret
    exact ⟨rfl, (Below.refl _ _).alloc (Nat.le_refl _) _⟩

def szWk (k : Wk) (left : Int) : Int := if left < k.2.length then -1 else left - k.2.length
theorem szWk_le (k : Wk) (left : Int) (h : ¬ szWk k left < 0) : k.2.length ≤ left.toNat ∧ 0 ≤ szWk k left ∧ szWk k left ≤ left := by
  unfold szWk at h ⊢
  split at h
  · omega
  · rw [if_neg (by omega)]; omega
theorem szWalkD_any (v : Value) (k : Wk) (left : Int) (w : World) (hv : WkV 0 w.heap.size w v k) (h0 : 0 ≤ left) (h1 : left ≤ 1048576) :
    Calls Try.prog 20 #[v, .int .i64 left] w fun e w' => e = .returned (.int .i64 (szWk k left)) ∧ Below w.heap.size w w' := szWalk_any v k left w hv h0 h1

set_option maxHeartbeats 1000000 in
theorem toWalk_any (v : Value) (k : Wk) (w : World) (hv : WkV 0 w.heap.size w v k) (h1 : k.2.length ≤ 1048576) :
    Calls Try.prog 22 #[v] w fun e w' => ∃ v', e = .returned v' ∧ WkO w.heap.size w'.heap.size w' v' k ∧ Below w.heap.size w w' := by
  obtain ⟨ss, rfl, hss⟩ := hv
  obtain ⟨st, steps⟩ := k
  go_enter Try.func22, Try.ntmps22
  go_wp2_with fail
  refine (toStepS_any ss steps _ ?_ h1).mono ?_
  · exact SlE.keep hss (by repeat (first | exact Below.refl _ _ | refine Below.setCell ?_ (by simp <;> omega) _ | refine Below.alloc ?_ (by simp <;> omega) _))
  rintro e w1 ⟨v1, rfl, ho1', hb1⟩
  have b1 := (((Blk.new (w.alloc _) _ _ (w.heap.size + 1) (by simp)).alloc _)).keep hb1
  have b2 := (Blk.new ((w.alloc _).alloc _) _ _ (w.heap.size + 1 + 1) (by simp)).keep hb1
  have o1 : Only w.heap.size (w.heap.size + 3) w w1 := (((Only.refl _ _ _).alloc _).alloc _ |>.alloc _).trans (Only.of_below hb1 _ _)
  have ho1 : Own (w.heap.size + 3) w1.heap.size w1 _ cSt 2 v1 steps := ho1'.mono (by simp) (Nat.le_refl _)
  clear ho1'
  obtain ⟨A1, n1, c1, rfl⟩ := ho1.shape
  have s1 : w.heap.size + 3 ≤ w1.heap.size := by have := hb1.size; simpa using this
  clear hb1
  have x0 : w1.cell? ⟨w.heap.size + 1, 0, none⟩ = some _ := b1.cell 0
  have x1 : w1.cell? ⟨w.heap.size + 1, 1, none⟩ = some _ := b1.cell 1
  have x2 : w1.cell? ⟨w.heap.size + 1 + 1, 0, none⟩ = some _ := b2.cell 0
  have x3 : w1.cell? ⟨w.heap.size + 1 + 1, 1, none⟩ = some _ := b2.cell 1
  have y0 := b1.frozen 0
  have y1 := b1.frozen 1
  have y2 := b2.frozen 0
  have y3 := b2.frozen 1
  go_wp2_with fail
  have oz : Only w.heap.size (w.heap.size + 3) w1 _ := (((Only.refl _ _ w1).setCell (p := ⟨w.heap.size + 1 + 1, 1, none⟩) (.inl (by simp <;> omega)) (.slice A1 n1 c1)).setCell (p := ⟨w.heap.size + 1, 0, none⟩) (.inl (by simp <;> omega)) (.int .i64 st)).setCell (p := ⟨w.heap.size + 1, 1, none⟩) (.inl (by simp <;> omega)) (.slice A1 n1 c1)
  refine bodyPost_ret (v := .agg #[.int .i64 st, .slice A1 n1 c1]) (by simp [results, Try.results22, go_sem, x0, x1]) rfl ⟨_, rfl, ⟨_, rfl, (ho1.only oz (.inr (Nat.le_refl _))).mono (by omega) (by simp)⟩, (o1.trans oz).below (Nat.le_refl _) (Nat.le_refl _)⟩

set_option maxHeartbeats 1000000 in
theorem eqWalk_same (v1 v2 : Value) (k : Wk) (w : World) (hv1 : WkV 0 w.heap.size w v1 k) (hv2 : WkV 0 w.heap.size w v2 k) :
    Calls Try.prog 13 #[v1, v2] w fun e w' => e = .returned (.bool true) ∧ Below w.heap.size w w' := by
  obtain ⟨ss1, rfl, hs1⟩ := hv1
  obtain ⟨ss2, rfl, hs2⟩ := hv2
  obtain ⟨st, steps⟩ := k
  have hb0 : Below w.heap.size w ((w.alloc (.cells #[.int .i64 st, ss1] 34)).alloc (.cells #[.int .i64 st, ss2] 34)) := ((Below.refl _ _).alloc (Nat.le_refl _) _).alloc (by simp) _
  go_enter Try.func13, Try.ntmps13
  go_wp2_with fail
  refine (eqStepS_same ss1 ss2 steps _ (SlE.keep hs1 hb0) (SlE.keep hs2 hb0)).mono ?_
  rintro e w1 ⟨rfl, hb1⟩
  go_wp2_with fail
  go_ret
  exact ⟨rfl, below_trans hb0 hb1⟩

set_option maxHeartbeats 1000000 in
theorem markWalk_any (lo hi : Nat) (v : Value) (x : Wk) (k : Int) (w : World) (hv : WkO lo hi w v x) (hw : hi ≤ w.heap.size) (hk : 0 ≤ k) (h1 : x.2.length ≤ 1048576) (hk2 : k ≤ 1099511627776) :
    Calls Try.prog 18 #[v, .int .i64 k] w fun e w' => e = .returned (.int .i64 (k + 2 * x.2.length)) ∧ WkO lo hi w' v (x.1, mkStep k x.2.length) ∧ Only lo hi w w' := by
  obtain ⟨ss, rfl, hss⟩ := hv
  have hb0 : Below w.heap.size w (w.alloc (.cells #[.int .i64 x.1, ss] 34)) := (Below.refl _ _).alloc (Nat.le_refl _) _
  go_enter Try.func18, Try.ntmps18
  go_wp2_with fail
  refine (markStepS_any lo hi _ ss x.2 k _ (hss.below hb0 hw) hk (by omega)).mono ?_
  rintro e w1 ⟨rfl, hss1, ho1⟩
  have ho2 := (Only.of_below hb0 lo hi).trans ho1
  go_wp2_with fail
  go_ret
  exact ⟨rfl, ⟨ss, rfl, hss1⟩, ho2⟩

set_option maxHeartbeats 1000000 in
theorem heldWalk_any (v : Value) (st : Int) (n : Nat) (k : Int) (w : World) (hv : WkV 0 w.heap.size w v (st, mkStep k n)) (hk : 0 ≤ k) (h1 : n ≤ 1048576) (hk2 : k ≤ 1099511627776) :
    Calls Try.prog 19 #[v, .int .i64 k] w fun e w' => e = .returned (.int .i64 (k + 2 * n)) ∧ Below w.heap.size w w' := by
  obtain ⟨ss, rfl, hss⟩ := hv
  have hb0 : Below w.heap.size w (w.alloc (.cells #[.int .i64 st, ss] 34)) := (Below.refl _ _).alloc (Nat.le_refl _) _
  go_enter Try.func19, Try.ntmps19
  go_wp2_with fail
  refine (heldStepS_any ss n k _ (SlE.keep hss hb0) hk (by omega)).mono ?_
  rintro e w1 ⟨rfl, hb1⟩
  go_wp2_with fail
  go_ret
  exact ⟨rfl, below_trans hb0 hb1⟩
end Go.Proofs.Ytlhpcknpjdeebaa

/- A walk is marked, with room for what was marked ahead of it. -/
namespace Go.Proofs.Ytlhpcknpjdeebaa
set_option linter.unusedVariables false
set_option linter.unusedSimpArgs false
open Go.ChangeShapes Go.WideShapes Go.ChangeAt Go.RowKit
attribute [local go_sem] ext_cell ext_frozen ext_lt ext_lt1 ext_lt2 ext_lt3 ltn2 ltn3 ltn13 lts1 lts2 lts3
set_option maxHeartbeats 1000000 in
theorem markWalk_wide (lo hi : Nat) (v : Value) (x : Wk) (k : Int) (w : World) (hv : WkO lo hi w v x) (hw : hi ≤ w.heap.size) (hk : 0 ≤ k) (h1 : x.2.length ≤ 1048576) (hk2 : k ≤ 4398046511104) :
    Calls Try.prog 18 #[v, .int .i64 k] w fun e w' => e = .returned (.int .i64 (k + 2 * x.2.length)) ∧ WkO lo hi w' v (x.1, mkStep k x.2.length) ∧ Only lo hi w w' := by
  obtain ⟨ss, rfl, hss⟩ := hv
  have hb0 : Below w.heap.size w (w.alloc (.cells #[.int .i64 x.1, ss] 34)) := (Below.refl _ _).alloc (Nat.le_refl _) _
  go_enter Try.func18, Try.ntmps18
  go_wp2_with fail
  refine (markStepS_any lo hi _ ss x.2 k _ (hss.below hb0 hw) hk (by omega)).mono ?_
  rintro e w1 ⟨rfl, hss1, ho1⟩
  have ho2 := (Only.of_below hb0 lo hi).trans ho1
  go_wp2_with fail
  go_ret
  exact ⟨rfl, ⟨ss, rfl, hss1⟩, ho2⟩
end Go.Proofs.Ytlhpcknpjdeebaa

/- Plain: breadth first search finds the least number of steps to a goal. -/
namespace Go.Proofs.Ytlhpcknpjdeebaa
set_option linter.unusedVariables false
set_option linter.unusedSimpArgs false

/-- a goal is n steps away from i -/
def toG (next : Nat → List Nat) (goal : Nat → Prop) : Nat → Nat → Prop
  | 0, i => goal i
  | n + 1, i => ∃ k ∈ next i, toG next goal n k
def IsDist (next : Nat → List Nat) (goal : Nat → Prop) (i : Nat) (d : Int) : Prop :=
  (d = -1 ∧ ∀ n, ¬ toG next goal n i) ∨ (0 ≤ d ∧ toG next goal d.toNat i ∧ ∀ m : Nat, m < d.toNat → ¬ toG next goal m i)
theorem IsDist.uniq {next : Nat → List Nat} {goal : Nat → Prop} {i : Nat} {d e : Int} (h : IsDist next goal i d) (k : IsDist next goal i e) : d = e := by
  rcases h with ⟨rfl, h⟩ | ⟨h0, h1, h2⟩
  · rcases k with ⟨rfl, _⟩ | ⟨_, k1, _⟩
    · rfl
    · exact absurd k1 (h _)
  · rcases k with ⟨rfl, k⟩ | ⟨k0, k1, k2⟩
    · exact absurd h1 (k _)
    · rcases Nat.lt_trichotomy d.toNat e.toNat with hlt | heq | hgt
      · exact absurd h1 (k2 _ hlt)
      · omega
      · exact absurd k1 (h2 _ hgt)

section
variable {prev next : Nat → List Nat} {goal : Nat → Prop} {N : Nat} {D : List Int} {q : List Nat}
structure BO (prev next : Nat → List Nat) (goal : Nat → Prop) (N : Nat) (D : List Int) (q : List Nat) : Prop where
  len : D.length = N
  sound : ∀ i, i < N → 0 ≤ D.getD i 0 → toG next goal (D.getD i 0).toNat i
  src : ∀ i, i < N → goal i → D.getD i 0 = 0
  done : ∀ k, k < N → 0 ≤ D.getD k 0 → k ∉ q → ∀ i ∈ prev k, 0 ≤ D.getD i 0 ∧ D.getD i 0 ≤ D.getD k 0 + 1
  top : ∀ h r, q = h :: r → ∀ i, i < N → D.getD i 0 ≤ D.getD h 0 + 1
  sorted : q.Pairwise (fun a b => D.getD a 0 ≤ D.getD b 0)
  qN : ∀ x ∈ q, x < N ∧ 0 ≤ D.getD x 0
  low : ∀ i, i < N → -1 ≤ D.getD i 0
structure BI (prev next : Nat → List Nat) (goal : Nat → Prop) (N : Nat) (D : List Int) (q : List Nat) (h : Nat) (l : List Nat) : Prop where
  len : D.length = N
  hN : h < N
  hD : 0 ≤ D.getD h 0
  sound : ∀ i, i < N → 0 ≤ D.getD i 0 → toG next goal (D.getD i 0).toNat i
  src : ∀ i, i < N → goal i → D.getD i 0 = 0
  done : ∀ k, k < N → 0 ≤ D.getD k 0 → k ∉ q → k ≠ h → ∀ i ∈ prev k, 0 ≤ D.getD i 0 ∧ D.getD i 0 ≤ D.getD k 0 + 1
  here : ∀ i ∈ prev h, i ∈ l ∨ (0 ≤ D.getD i 0 ∧ D.getD i 0 ≤ D.getD h 0 + 1)
  top : ∀ i, i < N → D.getD i 0 ≤ D.getD h 0 + 1
  qs : ∀ x ∈ q, D.getD h 0 ≤ D.getD x 0
  sorted : q.Pairwise (fun a b => D.getD a 0 ≤ D.getD b 0)
  qN : ∀ x ∈ q, x < N ∧ 0 ≤ D.getD x 0
  low : ∀ i, i < N → -1 ≤ D.getD i 0

theorem BO.enter {h : Nat} (b : BO prev next goal N D (h :: q)) : BI prev next goal N D q h (prev h) :=
  ⟨b.len, (b.qN h (by simp)).1, (b.qN h (by simp)).2, b.sound, b.src, fun k hk h0 hq hh => b.done k hk h0 (by simp [hq, hh]), fun i hi => .inl hi, b.top h q rfl,
    fun x hx => (List.pairwise_cons.1 b.sorted).1 x hx, (List.pairwise_cons.1 b.sorted).2, fun x hx => b.qN x (List.mem_cons_of_mem _ hx), b.low⟩
theorem BI.leave {h : Nat} (b : BI prev next goal N D q h []) : BO prev next goal N D q := by
  refine ⟨b.len, b.sound, b.src, fun k hk h0 hq => ?_, fun x r hx i hi => ?_, b.sorted, b.qN, b.low⟩
  · by_cases hkh : k = h
    · subst hkh
      intro i hi
      rcases b.here i hi with h | h
      · simp at h
      · exact h
    · exact b.done k hk h0 hq hkh
  · have h1 := b.top i hi
    have h2 := b.qs x (by rw [hx]; simp)
    omega
theorem BI.old {h k : Nat} {l : List Nat} (b : BI prev next goal N D q h (k :: l)) (hk : k < N) (h0 : ¬ D.getD k 0 < 0) : BI prev next goal N D q h l := by
  refine ⟨b.len, b.hN, b.hD, b.sound, b.src, b.done, fun i hi => ?_, b.top, b.qs, b.sorted, b.qN, b.low⟩
  rcases b.here i hi with h1 | h1
  · rcases List.mem_cons.1 h1 with rfl | h1
    · exact .inr ⟨by omega, b.top _ hk⟩
    · exact .inl h1
  · exact .inr h1
theorem BI.new {h k : Nat} {l : List Nat} (hpn : ∀ i k, i < N → k < N → i ∈ prev k → k ∈ next i) (hpN : ∀ i k, k < N → i ∈ prev k → i < N) (b : BI prev next goal N D q h (k :: l)) (hkp : k ∈ prev h) (h0 : D.getD k 0 < 0) :
    BI prev next goal N (D.set k (D.getD h 0 + 1)) (q ++ [k]) h l := by
  have hk : k < N := hpN k h b.hN hkp
  have hkl : k < D.length := by rw [b.len]; exact hk
  have hD := b.hD
  have hkh : k ≠ h := by intro e; subst e; omega
  have hh : (D.set k (D.getD h 0 + 1)).getD h 0 = D.getD h 0 := by rw [getD_set' hkl, if_neg (Ne.symm hkh)]
  have hset : ∀ x, x ≠ k → (D.set k (D.getD h 0 + 1)).getD x 0 = D.getD x 0 := fun x hx => by rw [getD_set' hkl, if_neg hx]
  have hsk : (D.set k (D.getD h 0 + 1)).getD k 0 = D.getD h 0 + 1 := by rw [getD_set' hkl, if_pos rfl]
  have hkq : ∀ x ∈ q, x ≠ k := fun x hx e => by subst e; have := (b.qN x hx).2; omega
  refine ⟨by rw [List.length_set]; exact b.len, b.hN, by rw [hh]; exact hD, fun i hi h1 => ?_, fun i hi hg => ?_, fun x hx h1 hxq hxh i hi => ?_, fun i hi => ?_, fun i hi => ?_, fun x hx => ?_, ?_, fun x hx => ?_, fun i hi => ?_⟩
  · by_cases e : i = k
    · subst e
      rw [hsk]
      have h2 := b.sound h b.hN hD
      rw [show (D.getD h 0 + 1).toNat = (D.getD h 0).toNat + 1 by omega]
      exact ⟨h, hpn i h hi b.hN hkp, h2⟩
    · rw [hset i e] at h1 ⊢
      exact b.sound i hi h1
  · have e : i ≠ k := by
      intro e; subst e
      have := b.src i hi hg
      omega
    rw [hset i e]
    exact b.src i hi hg
  · have e : x ≠ k := by intro e; subst e; simp at hxq
    rw [hset x e] at h1 ⊢
    have h2 := b.done x hx h1 (fun h => hxq (by simp [h])) hxh i hi
    have e2 : i ≠ k := by intro e2; subst e2; omega
    rw [hset i e2]
    exact h2
  · rw [hh]
    by_cases e : i = k
    · subst e
      refine .inr ?_
      rw [hsk]
      omega
    · rw [hset i e]
      rcases b.here i hi with h1 | h1
      · rcases List.mem_cons.1 h1 with h1 | h1
        · exact absurd h1 e
        · exact .inl h1
      · exact .inr h1
  · rw [hh]
    by_cases e : i = k
    · subst e; rw [hsk]; omega
    · rw [hset i e]; exact b.top i hi
  · rw [hh]
    rcases List.mem_append.1 hx with hx | hx
    · rw [hset x (hkq x hx)]; exact b.qs x hx
    · have : x = k := by simpa using hx
      subst this
      rw [hsk]; omega
  · rw [List.pairwise_append]
    refine ⟨?_, by simp, fun x hx y hy => ?_⟩
    · refine List.Pairwise.imp_of_mem (fun {x y} hx hy hxy => ?_) b.sorted
      rw [hset x (hkq x hx), hset y (hkq y hy)]
      exact hxy
    · have : y = k := by simpa using hy
      subst this
      rw [hset x (hkq x hx), hsk]
      exact b.top x (b.qN x hx).1
  · rcases List.mem_append.1 hx with hx | hx
    · rw [hset x (hkq x hx)]; exact b.qN x hx
    · have : x = k := by simpa using hx
      subst this
      rw [hsk]
      exact ⟨hk, by omega⟩
  · by_cases e : i = k
    · subst e; rw [hsk]; omega
    · rw [hset i e]; exact b.low i hi

theorem BI.all (hpn : ∀ i k, i < N → k < N → i ∈ prev k → k ∈ next i) (hpN : ∀ i k, k < N → i ∈ prev k → i < N) {h : Nat} : ∀ (l : List Nat) (D : List Int) (q : List Nat) (d : Int), d = D.getD h 0 + 1 → BI prev next goal N D q h l → (∀ k ∈ l, k ∈ prev h) →
    BO prev next goal N (relax d l D q).1 (relax d l D q).2 ∧ (relax d l D q).2.length + negs (relax d l D q).1 = q.length + negs D
  | [], _, _, _, _, b, _ => ⟨b.leave, rfl⟩
  | k :: l, D, q, d, hd, b, hl => by
    have hk : k < N := hpN k h b.hN (hl k (by simp))
    rw [relax]
    by_cases h0 : D.getD k 0 < 0
    · rw [if_pos h0]
      have hkl : k < D.length := by rw [b.len]; exact hk
      have hkh : k ≠ h := by intro e; subst e; have := b.hD; omega
      have h1 := BI.new hpn hpN b (hl k (by simp)) h0
      rw [← hd] at h1
      have := BI.all hpn hpN l (D.set k d) (q ++ [k]) d (by rw [getD_set' hkl, if_neg (Ne.symm hkh)]; exact hd) h1 (fun x hx => hl x (List.mem_cons_of_mem _ hx))
      refine ⟨this.1, this.2.trans ?_⟩
      have h3 := negs_set hkl h0 (d := d) (by have := b.hD; omega)
      rw [List.length_append, List.length_singleton]
      omega
    · rw [if_neg h0]
      exact BI.all hpn hpN l D q d hd (b.old hk h0) (fun x hx => hl x (List.mem_cons_of_mem _ hx))

theorem BO.fin (hnN : ∀ i k, i < N → k ∈ next i → k < N) (hnp : ∀ i k, i < N → k < N → k ∈ next i → i ∈ prev k) (b : BO prev next goal N D []) : ∀ i, i < N → IsDist next goal i (D.getD i 0) := by
  have hall : ∀ (n i : Nat), i < N → toG next goal n i → 0 ≤ D.getD i 0 ∧ D.getD i 0 ≤ n := by
    intro n
    induction n with
    | zero =>
      intro i hi h
      rw [b.src i hi h]
      omega
    | succ n ih =>
      rintro i hi ⟨k, hk, h⟩
      have hkN := hnN i k hi hk
      have h1 := ih k hkN h
      have h2 := b.done k hkN h1.1 (by simp) i (hnp i k hi hkN hk)
      omega
  intro i hi
  by_cases h0 : 0 ≤ D.getD i 0
  · exact .inr ⟨h0, b.sound i hi h0, fun m hm h => by have := hall m i hi h; omega⟩
  · refine .inl ⟨by have := b.low i hi; omega, fun n h => h0 (hall n i hi h).1⟩

theorem bfs_dist (hpn : ∀ i k, i < N → k < N → i ∈ prev k → k ∈ next i) (hpN : ∀ i k, k < N → i ∈ prev k → i < N) (hnN : ∀ i k, i < N → k ∈ next i → k < N) (hnp : ∀ i k, i < N → k < N → k ∈ next i → i ∈ prev k) :
    ∀ (f : Nat) (D : List Int) (q : List Nat), BO prev next goal N D q → q.length + negs D ≤ f → ∀ i, i < N → IsDist next goal i ((bfs prev f D q).getD i 0) := by
  intro f
  induction f with
  | zero =>
    intro D q b hf
    have : q = [] := List.eq_nil_of_length_eq_zero (by omega)
    subst this
    exact b.fin hnN hnp
  | succ f ih =>
    intro D q b hf
    cases q with
    | nil => exact b.fin hnN hnp
    | cons h q =>
      rw [bfs]
      have := BI.all hpn hpN (prev h) D q _ rfl b.enter (fun _ h => h)
      exact ih _ _ this.1 (by rw [this.2]; rw [List.length_cons] at hf; omega)

/-! ### The same by sweeps -/
/-- after the sweeps up to d: the distances up to d are known -/
def SwO (next : Nat → List Nat) (goal : Nat → Prop) (N : Nat) (D : List Int) (d : Nat) : Prop :=
  D.length = N ∧ ∀ i, i < N → (D.getD i 0 = -1 ∧ ∀ m, m ≤ d → ¬ toG next goal m i) ∨ (0 ≤ D.getD i 0 ∧ D.getD i 0 ≤ d ∧ IsDist next goal i (D.getD i 0))
/-- within the sweep for d + 1: the vertices below j are done -/
def SwI (next : Nat → List Nat) (goal : Nat → Prop) (N : Nat) (D : List Int) (d j : Nat) (ch : Bool) : Prop :=
  D.length = N ∧ (∀ i, i < N → (D.getD i 0 = -1 ∧ (∀ m, m ≤ d → ¬ toG next goal m i) ∧ (i < j → ¬ toG next goal (d + 1) i)) ∨ (0 ≤ D.getD i 0 ∧ D.getD i 0 ≤ (d : Int) + 1 ∧ IsDist next goal i (D.getD i 0))) ∧
    (ch = false → ∀ i, i < N → D.getD i 0 ≤ d)
theorem SwO.enter {d : Nat} (h : SwO next goal N D d) : SwI next goal N D d 0 false := by
  refine ⟨h.1, fun i hi => ?_, fun _ i hi => ?_⟩
  · rcases h.2 i hi with h1 | h1
    · exact .inl ⟨h1.1, h1.2, fun h => by omega⟩
    · exact .inr ⟨h1.1, by omega, h1.2.2⟩
  · rcases h.2 i hi with h1 | h1 <;> omega
theorem SwI.leave {d : Nat} {ch : Bool} (h : SwI next goal N D d N ch) : SwO next goal N D (d + 1) := by
  refine ⟨h.1, fun i hi => ?_⟩
  rcases h.2.1 i hi with h1 | h1
  · refine .inl ⟨h1.1, fun m hm => ?_⟩
    by_cases e : m = d + 1
    · subst e; exact h1.2.2 hi
    · exact h1.2.1 m (by omega)
  · exact .inr ⟨h1.1, by omega, h1.2.2⟩
theorem SwI.stop (hnN : ∀ i k, i < N → k ∈ next i → k < N) {d : Nat} (h : SwI next goal N D d N false) : ∀ i, i < N → IsDist next goal i (D.getD i 0) := by
  have hno : ∀ i, i < N → toG next goal (d + 1) i → ∃ m, m ≤ d ∧ toG next goal m i := by
    intro i hi ht
    rcases h.2.1 i hi with h1 | h1
    · exact absurd ht (h1.2.2 hi)
    · have h2 := h.2.2 rfl i hi
      rcases h1.2.2 with h3 | h3
      · omega
      · exact ⟨_, by omega, h3.2.1⟩
  have hall : ∀ (n i : Nat), i < N → toG next goal n i → ∃ m, m ≤ d ∧ toG next goal m i := by
    intro n
    induction n with
    | zero => intro i _ h; exact ⟨0, Nat.zero_le _, h⟩
    | succ n ih =>
      rintro i hi ⟨k, hk, ht⟩
      obtain ⟨m, hm, h2⟩ := ih k (hnN i k hi hk) ht
      by_cases e : m = d
      · subst e
        exact hno i hi ⟨k, hk, h2⟩
      · exact ⟨m + 1, by omega, k, hk, h2⟩
  intro i hi
  rcases h.2.1 i hi with h1 | h1
  · refine .inl ⟨h1.1, fun n hn => ?_⟩
    obtain ⟨m, hm, h2⟩ := hall n i hi hn
    exact h1.2.1 m hm h2
  · exact h1.2.2
/-- vertex j is known already, or none of its next ones is at distance d -/
theorem SwI.skip {d j : Nat} {ch : Bool} (h : SwI next goal N D d j ch) (hs : ¬ D.getD j 0 < 0 ∨ ∀ k ∈ next j, D.getD k 0 ≠ d) (hnN : ∀ i k, i < N → k ∈ next i → k < N) : SwI next goal N D d (j + 1) ch := by
  refine ⟨h.1, fun i hi => ?_, h.2.2⟩
  rcases h.2.1 i hi with h1 | h1
  · refine .inl ⟨h1.1, h1.2.1, fun hij => ?_⟩
    by_cases e : i = j
    · subst e
      rcases hs with hs | hs
      · omega
      · rintro ⟨k, hk, ht⟩
        have hkN := hnN i k hi hk
        rcases h.2.1 k hkN with h2 | h2
        · exact h2.2.1 d (Nat.le_refl _) ht
        · rcases h2.2.2 with h3 | h3
          · omega
          · have h4 : ¬ d < (D.getD k 0).toNat := fun hlt => h3.2.2 d hlt ht
            have h5 := hs k hk
            refine h1.2.1 ((D.getD k 0).toNat + 1) (by omega) ⟨k, hk, h3.2.1⟩
    · exact h1.2.2 (by omega)
  · exact .inr h1
theorem SwI.put {d j k : Nat} {ch : Bool} (h : SwI next goal N D d j ch) (hj : j < N) (h0 : D.getD j 0 < 0) (hk : k ∈ next j) (hkd : D.getD k 0 = d) (hnN : ∀ i k, i < N → k ∈ next i → k < N) : SwI next goal N (D.set j ((d : Int) + 1)) d (j + 1) true := by
  have hjl : j < D.length := by rw [h.1]; exact hj
  have hkN := hnN j k hj hk
  refine ⟨by rw [List.length_set]; exact h.1, fun i hi => ?_, fun h => by cases h⟩
  by_cases e : i = j
  · subst e
    rw [getD_set' hjl, if_pos rfl]
    rcases h.2.1 i hi with h1 | h1
    · refine .inr ⟨by omega, by omega, .inr ⟨by omega, ?_, fun m hm => h1.2.1 m (by omega)⟩⟩
      rcases h.2.1 k hkN with h2 | h2
      · omega
      · rcases h2.2.2 with h3 | h3
        · omega
        · have h4 := h3.2.1
          rw [hkd] at h4
          rw [show ((d : Int) + 1).toNat = d + 1 by omega]
          exact ⟨k, hk, by simpa using h4⟩
    · omega
  · rw [getD_set' hjl, if_neg e]
    rcases h.2.1 i hi with h1 | h1
    · exact .inl ⟨h1.1, h1.2.1, fun hij => h1.2.2 (by omega)⟩
    · exact .inr h1
end

/-- the lists turned round -/
def turnL (N : Nat) (next : Nat → List Nat) (k : Nat) : List Nat := (List.range N).flatMap fun i => (next i).filterMap fun x => if x = k then some i else none
theorem mem_turnL {N : Nat} {next : Nat → List Nat} {i k : Nat} : i ∈ turnL N next k ↔ i < N ∧ k ∈ next i := by
  unfold turnL
  simp only [List.mem_flatMap, List.mem_range, List.mem_filterMap]
  constructor
  · rintro ⟨j, hj, x, hx, he⟩
    by_cases h : x = k
    · rw [if_pos h] at he
      injection he with he
      subst h he
      exact ⟨hj, hx⟩
    · rw [if_neg h] at he; cases he
  · rintro ⟨hi, hk⟩
    exact ⟨i, hi, k, hk, by simp⟩
end Go.Proofs.Ytlhpcknpjdeebaa

/- Plain: the rows of vertices behind each vertex, filled vertex by vertex; the rows turned round. -/
namespace Go.Proofs.Ytlhpcknpjdeebaa
set_option linter.unusedVariables false
set_option linter.unusedSimpArgs false

/-- rows below i are whole, row i holds cur, the others are empty -/
def fillTo (N : Nat) (next : Nat → List Nat) (i : Nat) (cur : List Nat) : List (List Nat) := (List.range N).map fun m => if m < i then next m else if m = i then cur else []
theorem fill_at {N i m : Nat} {next : Nat → List Nat} {cur : List Nat} (h : m < N) : (fillTo N next i cur)[m]? = some (if m < i then next m else if m = i then cur else []) := by simp [fillTo, h]
theorem fill_cur {N i : Nat} {next : Nat → List Nat} {cur : List Nat} (h : i < N) : (fillTo N next i cur)[i]? = some cur := by rw [fill_at h, if_neg (by omega), if_pos rfl]
theorem fill_len (N i : Nat) (next : Nat → List Nat) (cur : List Nat) : (fillTo N next i cur).length = N := by simp [fillTo]
theorem fill_zero (N : Nat) (next : Nat → List Nat) : fillTo N next 0 [] = List.replicate N [] := by
  apply List.ext_getElem?
  intro x
  by_cases h : x < N
  · rw [fill_at h, List.getElem?_replicate, if_pos h]; simp
  · rw [List.getElem?_eq_none (by rw [fill_len]; omega), List.getElem?_eq_none (by rw [List.length_replicate]; omega)]
theorem fill_push {N i : Nat} {next : Nat → List Nat} {cur : List Nat} (v : List Nat) (h : i < N) : (fillTo N next i cur).set i v = fillTo N next i v := by
  apply List.ext_getElem?
  intro x
  rw [List.getElem?_set, fill_len]
  by_cases hx : x < N
  · by_cases e : i = x
    · subst e
      rw [if_pos rfl, if_pos h, fill_cur h]
    · rw [if_neg e, fill_at hx, fill_at hx]
      have : ¬ x = i := fun h => e h.symm
      simp [this]
  · rw [List.getElem?_eq_none (l := fillTo N next i v) (by rw [fill_len]; omega)]
    rw [if_neg (by omega), List.getElem?_eq_none (by rw [fill_len]; omega)]
theorem fill_next {N i : Nat} {next : Nat → List Nat} : fillTo N next i (next i) = fillTo N next (i + 1) [] := by
  unfold fillTo
  apply List.map_congr_left
  intro m _
  by_cases h1 : m < i
  · rw [if_pos h1, if_pos (by omega)]
  · by_cases h2 : m = i
    · subst h2
      rw [if_neg h1, if_pos rfl, if_pos (by omega)]
    · rw [if_neg h1, if_neg h2, if_neg (by omega)]
      split <;> rfl
theorem fill_all (N : Nat) (next : Nat → List Nat) : fillTo N next N [] = (List.range N).map next := by
  unfold fillTo
  apply List.map_congr_left
  intro m hm
  rw [if_pos (List.mem_range.1 hm)]
theorem nextI_at {g : Gr} {a : Au} {x s : Nat} (hs : s < a.accept.length) : nextI g a (x * a.accept.length + s) = nextV g a x s := by
  unfold nextI
  rw [Nat.add_comm, Nat.add_mul_div_right _ _ (by omega), Nat.div_eq_of_lt hs, Nat.add_mul_mod_self_right, Nat.mod_eq_of_lt hs, Nat.zero_add]
theorem vert_lt {n m x s : Nat} (hx : x < m) (hs : s < n) : x * n + s < m * n := by
  have := Nat.mul_le_mul_right n (show x + 1 ≤ m by omega)
  rw [Nat.succ_mul] at this
  omega

/-- the rows turned round, by the first i rows and j entries of row i -/
def turnTo (N : Nat) (next : Nat → List Nat) (i : Nat) (cur : List Nat) : List (List Nat) := (List.range N).map fun k => ((List.range i).flatMap fun m => (next m).filterMap fun x => if x = k then some m else none) ++ cur.filterMap fun x => if x = k then some i else none
theorem turn_at {N i k : Nat} {next : Nat → List Nat} {cur : List Nat} (h : k < N) : (turnTo N next i cur)[k]? = some (((List.range i).flatMap fun m => (next m).filterMap fun x => if x = k then some m else none) ++ cur.filterMap fun x => if x = k then some i else none) := by simp [turnTo, h]
theorem turn_len (N i : Nat) (next : Nat → List Nat) (cur : List Nat) : (turnTo N next i cur).length = N := by simp [turnTo]
theorem turn_zero (N : Nat) (next : Nat → List Nat) : turnTo N next 0 [] = List.replicate N [] := by
  apply List.ext_getElem?
  intro x
  by_cases h : x < N
  · rw [turn_at h, List.getElem?_replicate, if_pos h]; simp
  · rw [List.getElem?_eq_none (by rw [turn_len]; omega), List.getElem?_eq_none (by rw [List.length_replicate]; omega)]
theorem turn_push {N i k : Nat} {next : Nat → List Nat} {cur row : List Nat} (h : k < N) (hr : (turnTo N next i cur)[k]? = some row) : (turnTo N next i cur).set k (row ++ [i]) = turnTo N next i (cur ++ [k]) := by
  apply List.ext_getElem?
  intro x
  rw [List.getElem?_set, turn_len]
  by_cases hx : x < N
  · by_cases e : k = x
    · subst e
      rw [turn_at h] at hr
      injection hr with hr
      rw [if_pos rfl, if_pos h, turn_at h, ← hr, List.filterMap_append]
      simp
    · rw [if_neg e, turn_at hx, turn_at hx, List.filterMap_append]
      simp [e]
  · rw [List.getElem?_eq_none (l := turnTo N next i (cur ++ [k])) (by rw [turn_len]; omega)]
    rw [if_neg (by omega), List.getElem?_eq_none (by rw [turn_len]; omega)]
theorem turn_next {N i : Nat} {next : Nat → List Nat} : turnTo N next i (next i) = turnTo N next (i + 1) [] := by
  unfold turnTo
  apply List.map_congr_left
  intro k _
  rw [List.range_succ, List.flatMap_append]
  simp
theorem turn_all (N : Nat) (next : Nat → List Nat) : turnTo N next N [] = (List.range N).map (turnL N next) := by
  unfold turnTo turnL
  apply List.map_congr_left
  intro k _
  simp
end Go.Proofs.Ytlhpcknpjdeebaa

/- Plain: the steps of the product from a vertex, as the reference lists them. -/
namespace Go.Proofs.Ytlhpcknpjdeebaa
set_option linter.unusedVariables false
set_option linter.unusedSimpArgs false
abbrev PS := St × Int × Int
def psA (g : Gr) (a : Au) (x s : Nat) (y : Arc) : List PS := (mem 12 (aft a (bit s) (valAt g x) y.2.1.toNat)).map fun (q : Nat) => (y.1, y.2.2, (q : Int))
def prodSteps (g : Gr) (a : Au) (x s : Nat) : List PS := (arcsOf g (x : Int)).flatMap (psA g a x s)
def psV (n : Nat) (p : PS) : Nat := p.2.1.toNat * n + p.2.2.toNat
theorem psV_next (g : Gr) (a : Au) (x s : Nat) : (prodSteps g a x s).map (psV a.accept.length) = nextV g a x s := by
  unfold prodSteps nextV
  rw [List.map_flatMap]
  congr 1
  funext y
  unfold psA nextA
  rw [List.map_map]
  apply List.map_congr_left
  intro q _
  simp [psV]
theorem psA_len (g : Gr) (a : Au) (x s : Nat) (y : Arc) : (psA g a x s y).length ≤ 12 := by rw [psA, List.length_map]; exact mem_len _ _
theorem prodSteps_len {g : Gr} (hg : GrOk g) (a : Au) (x s : Nat) : (prodSteps g a x s).length ≤ 288 := by
  have h2 := flat_len (psA_len g a x s) (arcsOf g (x : Int))
  have h3 := arcs_len hg (x : Int)
  unfold prodSteps
  omega
theorem prodSteps_range {g : Gr} {a : Au} (hg : GrOk g) (ha : auOk a = true) {x s : Nat} {p : PS} (h : p ∈ prodSteps g a x s) : (0 ≤ p.2.1 ∧ p.2.1 ≤ (g.vals.length : Int) - 1) ∧ 0 ≤ p.2.2 ∧ p.2.2 < (a.accept.length : Int) := by
  obtain ⟨y, hy, hp⟩ := List.mem_flatMap.1 h
  obtain ⟨q, hq, rfl⟩ := List.mem_map.1 hp
  have h1 := (arc_range hg hy).2
  have h2 := aft_lt ha (bit s) (valAt g x) y.2.1.toNat
  rw [mem12 ha h2, mem_mem] at hq
  exact ⟨h1, by simp only; omega, by simp only; omega⟩
def foldTo (a : Au) (l set q : Nat) : Nat := (mem q set).foldl (aft1 a l) 0
theorem foldTo_no {a : Au} {l set q : Nat} (h : set.testBit q = false) : foldTo a l set (q + 1) = foldTo a l set q := by rw [foldTo, mem_no h]; rfl
theorem foldTo_yes {a : Au} {l set q : Nat} (h : set.testBit q = true) : foldTo a l set (q + 1) = aft1 a l (foldTo a l set q) q := by rw [foldTo, mem_yes h, List.foldl_append]; rfl
theorem foldTo_lt {a : Au} (h : auOk a = true) (l set q : Nat) : foldTo a l set q < 2 ^ a.accept.length := foldl_inv (P := fun m => m < 2 ^ a.accept.length) (fun m x hm => aft1_lt h l m x hm) _ _ (Nat.two_pow_pos _)
theorem foldTo_all {a : Au} (h : auOk a = true) {v s l : Nat} (hs : s < a.accept.length) : foldTo a l (cls a v s) a.accept.length = aft a (bit s) v l := by
  rw [aft_one v l (show s < 12 by have := (auOk_iff.1 h).1.2; omega), mem12 h (cls_lt h v s hs)]; rfl
end Go.Proofs.Ytlhpcknpjdeebaa

/- Plain: the nodes of a walk and when it is one of a graph. -/
namespace Go.Proofs.Ytlhpcknpjdeebaa
set_option linter.unusedVariables false
set_option linter.unusedSimpArgs false

def nodesL (g : Gr) (k : Wk) : List Int := k.1 :: k.2.map (stepTo g)
theorem nodesL_len (g : Gr) (k : Wk) : (nodesL g k).length = k.2.length + 1 := by simp [nodesL]
theorem nodesL_succ {g : Gr} {k : Wk} {i : Nat} {s : St} (h : k.2[i]? = some s) : (nodesL g k).take (i + 1 + 1) = (nodesL g k).take (i + 1) ++ [stepTo g s] := by
  refine take_snoc ?_
  rw [nodesL, List.getElem?_cons_succ, List.getElem?_map, h]; rfl
theorem nodesL_next {g : Gr} {k : Wk} {i : Nat} {s : St} (h : k.2[i]? = some s) : (nodesL g k)[i + 1]? = some (stepTo g s) := by rw [nodesL, List.getElem?_cons_succ, List.getElem?_map, h]; rfl
/-- the step leads from the node that the walk is at -/
def linkAt (g : Gr) (k : Wk) (i : Nat) : Bool := stepFrom g (k.2.getD i (0, false)) == (nodesL g k).getD i 0
def walkOk (g : Gr) (k : Wk) : Bool := grOk g && wi k.1 0 ((g.vals.length : Int) - 1) && decide (k.2.length ≤ 60) && (List.range k.2.length).all (linkAt g k)
/-- the nodes of a walk of the graph; none of another -/
def nodesOut (g : Gr) (k : Wk) : List Int := if walkOk g k = true then nodesL g k else []
theorem nodesOut_no {g : Gr} {k : Wk} (h : walkOk g k = false) : nodesOut g k = [] := by rw [nodesOut, h]; rfl
theorem nodesOut_yes {g : Gr} {k : Wk} (h : walkOk g k = true) : nodesOut g k = nodesL g k := by rw [nodesOut, h]; rfl
theorem linkAt_eq {g : Gr} {k : Wk} {i : Nat} {s : St} {x : Int} (h : k.2[i]? = some s) (hx : (nodesL g k)[i]? = some x) : linkAt g k i = (stepFrom g s == x) := by
  rw [linkAt, List.getD_eq_getElem?_getD, h, List.getD_eq_getElem?_getD, hx]; rfl
theorem walkOk_long {g : Gr} {k : Wk} (h : 60 < k.2.length) : walkOk g k = false := by
  rw [walkOk, show decide (k.2.length ≤ 60) = false by simp; omega]
  simp
def walkAllowed (g : Gr) (c : Int) (k : Wk) : Bool := k.2.all (stepAllowed g c) && wi c 0 4 && walkOk g k
end Go.Proofs.Ytlhpcknpjdeebaa

/- Plain: the sets of states along a walk, and whether a walk matches. -/
namespace Go.Proofs.Ytlhpcknpjdeebaa
set_option linter.unusedVariables false
set_option linter.unusedSimpArgs false
/-- node i of a walk -/
def nodeAt (g : Gr) (k : Wk) (i : Nat) : Nat := ((nodesL g k).getD i 0).toNat
def letAt (g : Gr) (k : Wk) (i : Nat) : Nat := (stepLetter g (k.2.getD i (0, false))).toNat
/-- the states behind i steps -/
def setAt (g : Gr) (a : Au) (k : Wk) : Nat → Nat
  | 0 => bit a.start.toNat
  | i + 1 => aft a (setAt g a k i) (valAt g (nodeAt g k i)) (letAt g k i)
def setsL (g : Gr) (a : Au) (k : Wk) (n : Nat) : List Nat := (List.range n).map (setAt g a k)
theorem setsL_len (g : Gr) (a : Au) (k : Wk) (n : Nat) : (setsL g a k n).length = n := by simp [setsL]
theorem setsL_snoc (g : Gr) (a : Au) (k : Wk) (n : Nat) : setsL g a k (n + 1) = setsL g a k n ++ [setAt g a k n] := by simp [setsL, List.range_succ]
theorem setsL_at {g : Gr} {a : Au} {k : Wk} {n i : Nat} (h : i < n) : (setsL g a k n)[i]? = some (setAt g a k i) := by simp [setsL, h]
theorem setAt_lt {g : Gr} {a : Au} (ha : auOk a = true) (k : Wk) (i : Nat) : setAt g a k i < 2 ^ a.accept.length := by
  cases i with
  | zero => exact bit_lt (by have := (auOk_iff.1 ha).2.1; omega)
  | succ i => exact aft_lt ha _ _ _
theorem walkOk_parts {g : Gr} {k : Wk} (h : walkOk g k = true) : GrOk g ∧ (0 ≤ k.1 ∧ k.1 ≤ (g.vals.length : Int) - 1) ∧ k.2.length ≤ 60 ∧ ∀ i, i < k.2.length → linkAt g k i = true := by
  simp only [walkOk, Bool.and_eq_true, wi_iff, decide_eq_true_eq, List.all_eq_true, List.mem_range] at h
  exact ⟨grOk_iff.1 h.1.1.1, h.1.1.2, h.1.2, h.2⟩
theorem stepTo_of {g : Gr} {s : St} {e : Ed} (h : stepEd g s.1 = some e) : stepTo g s = arcTo s.2 e := by
  unfold stepTo stepFrom arcTo
  simp only [h]
  cases s.2 <;> rfl
theorem stepFrom_of {g : Gr} {s : St} {e : Ed} (h : stepEd g s.1 = some e) : stepFrom g s = arcTo (!s.2) e := by
  unfold stepFrom arcTo
  simp only [h]
  cases s.2 <;> rfl
theorem stepLetter_of {g : Gr} {s : St} {e : Ed} (h : stepEd g s.1 = some e) : stepLetter g s = arcLetter s.2 e := by
  unfold stepLetter arcLetter
  simp only [h]
theorem nodeAt_at {g : Gr} {k : Wk} {i : Nat} (h : i ≤ k.2.length) : (nodesL g k)[i]? = some ((nodesL g k).getD i 0) := by
  rw [List.getD_eq_getElem?_getD, List.getElem?_eq_getElem (by rw [nodesL_len]; omega)]; rfl
/-- the nodes of a walk of the graph are nodes of the graph, and its steps are edges of it -/
theorem walk_parts {g : Gr} {k : Wk} (h : walkOk g k = true) : ∀ {i : Nat}, i ≤ k.2.length → (0 ≤ (nodesL g k).getD i 0 ∧ (nodesL g k).getD i 0 ≤ (g.vals.length : Int) - 1) ∧
    (i < k.2.length → ∃ s e, k.2[i]? = some s ∧ stepEd g s.1 = some e ∧ stepFrom g s = (nodesL g k).getD i 0 ∧ stepTo g s = (nodesL g k).getD (i + 1) 0) := by
  obtain ⟨hg, hk, -, hl⟩ := walkOk_parts h
  have step : ∀ i, i < k.2.length → 0 ≤ (nodesL g k).getD i 0 → ∃ s e, k.2[i]? = some s ∧ stepEd g s.1 = some e ∧ stepFrom g s = (nodesL g k).getD i 0 ∧ stepTo g s = (nodesL g k).getD (i + 1) 0 := by
    intro i hi h0
    have hs : k.2[i]? = some k.2[i] := List.getElem?_eq_getElem hi
    generalize k.2[i] = s at hs
    have hlk := hl i hi
    rw [linkAt_eq hs (nodeAt_at (by omega)), beq_iff_eq] at hlk
    have hnx := nodesL_next (g := g) hs
    have hnx2 := nodeAt_at (g := g) (k := k) (i := i + 1) (by omega)
    rw [hnx] at hnx2
    cases he : stepEd g s.1 with
    | none =>
      have := stepFrom_neg.2 he
      omega
    | some e => exact ⟨s, e, hs, he, hlk, by injection hnx2⟩
  intro i
  induction i with
  | zero => exact fun _ => ⟨hk, fun hi => step 0 hi hk.1⟩
  | succ i ih =>
    intro hi
    obtain ⟨hr, hst⟩ := ih (by omega)
    obtain ⟨s, e, hs, he, hf, ht⟩ := hst (by omega)
    have hrange : 0 ≤ stepTo g s ∧ stepTo g s ≤ (g.vals.length : Int) - 1 := by
      rw [stepTo_of he]
      obtain ⟨_, hm, _⟩ := stepEd_ok he
      have := hg.edges e hm
      unfold arcTo
      split <;> omega
    rw [ht] at hrange
    exact ⟨hrange, fun hi2 => step (i + 1) hi2 hrange.1⟩
theorem nodeAt_lt {g : Gr} {k : Wk} (h : walkOk g k = true) {i : Nat} (hi : i ≤ k.2.length) : (nodesL g k)[i]? = some (nodeAt g k i : Int) ∧ nodeAt g k i < g.vals.length := by
  have h1 := (walk_parts h hi).1
  refine ⟨?_, ?_⟩
  · rw [nodeAt_at hi, nodeAt, Int.toNat_of_nonneg h1.1]
  · unfold nodeAt; omega
/-- step i: its edge, its letter, the node behind it -/
theorem walk_step {g : Gr} {k : Wk} (h : walkOk g k = true) {i : Nat} (hi : i < k.2.length) : ∃ s e, k.2[i]? = some s ∧ stepEd g s.1 = some e ∧ arcTo s.2 e = (nodeAt g k (i + 1) : Int) ∧ arcLetter s.2 e = (letAt g k i : Int) ∧ stepLetter g s = (letAt g k i : Int) ∧ letAt g k i < 6 := by
  obtain ⟨s, e, hs, he, -, ht⟩ := (walk_parts h (Nat.le_of_lt hi)).2 hi
  obtain ⟨hg, hm, _⟩ := stepEd_ok he
  have hl := hg.edges e hm
  have h1 := (walk_parts h (show i + 1 ≤ k.2.length from hi)).1
  have hsd : k.2.getD i (0, false) = s := by rw [List.getD_eq_getElem?_getD, hs]; rfl
  have hr : 0 ≤ arcLetter s.2 e ∧ arcLetter s.2 e ≤ 5 := by
    unfold arcLetter
    split <;> omega
  have hla : (letAt g k i : Int) = arcLetter s.2 e := by rw [letAt, hsd, stepLetter_of he, Int.toNat_of_nonneg hr.1]
  refine ⟨s, e, hs, he, ?_, hla.symm, by rw [stepLetter_of he, hla], by omega⟩
  rw [← stepTo_of he, ht, nodeAt, Int.toNat_of_nonneg h1.1]
/-! ### Whether a walk matches -/
def walkEnd (g : Gr) (k : Wk) : Int := if walkOk g k = true then (nodeAt g k k.2.length : Int) else -1
def matchB (g : Gr) (a : Au) (k : Wk) : Bool := (walkOk g k && auOk a) && acc a (setAt g a k k.2.length) (valAt g (nodeAt g k k.2.length))
def isWit (g : Gr) (a : Au) (x y : Int) (k : Wk) : Bool := (k.1 == x && walkEnd g k == y) && matchB g a k
def alongS (g : Gr) (a : Au) (k : Wk) : List Nat := if (walkOk g k && auOk a) = true then setsL g a k (k.2.length + 1) else []
def alongN (g : Gr) (a : Au) (k : Wk) : List Int := if (walkOk g k && auOk a) = true then nodesL g k else []
end Go.Proofs.Ytlhpcknpjdeebaa

/- The reference's functions on automata. -/
namespace Go.Proofs.Ytlhpcknpjdeebaa
set_option linter.unusedVariables false
set_option linter.unusedSimpArgs false
open Go.ChangeShapes Go.WideShapes Go.ChangeAt Go.RowKit
attribute [local go_sem] ext_cell ext_frozen ext_lt ext_lt1 ext_lt2 ext_lt3 ltn2 ltn3 ltn13 lts1 lts2 lts3

theorem l1In_any (n a b : Int) (w : World) : Calls Try.prog 36 #[.int .i64 n, .int .i64 a, .int .i64 b] w fun e w' => e = .returned (.bool (wi n a b)) ∧ w' = w := by
  unfold wi
  by_cases h1 : a ≤ n
  · have e1 : decide (a ≤ n) = true := by simpa using h1
    by_cases h2 : n ≤ b
    · go_enter Try.func36, Try.ntmps36
      go_wp2
      go_ret
      exact ⟨by simp [h1, h2], rfl⟩
    · go_enter Try.func36, Try.ntmps36
      go_wp2
      go_ret
      exact ⟨by simp [h1]; try omega, rfl⟩
  · have e1 : decide (a ≤ n) = false := by simpa using h1
    go_enter Try.func36, Try.ntmps36
    go_wp2
    go_ret
    exact ⟨by simp [h1]; try omega, rfl⟩

def auFits (a : Au) : Bool := wi a.start 0 ((a.accept.length : Int) - 1) && (a.next.length == a.accept.length) && a.next.all (rowOk a.accept.length)
theorem auFits_ok (a : Au) : (decide (a.accept.length ≤ 12) && auFits a) = auOk a := by
  rw [Bool.eq_iff_iff]
  simp only [auFits, auOk, Bool.and_eq_true, decide_eq_true_eq, wi_iff, beq_iff_eq]
  constructor
  · rintro ⟨h1, ⟨h2, h3⟩, h4⟩
    exact ⟨⟨⟨by omega, h2⟩, h3⟩, h4⟩
  · rintro ⟨⟨⟨h1, h2⟩, h3⟩, h4⟩
    exact ⟨by omega, ⟨h2, h3⟩, h4⟩

set_option maxHeartbeats 1000000 in
theorem l11Fits_any (v : Value) (a : Au) (w : World) (hv : AuV 0 w.heap.size w v a) :
    Calls Try.prog 111 #[v] w fun e w' => e = .returned (.bool (auFits a)) ∧ Below w.heap.size w w' := by
  obtain ⟨ac, nx, rfl, ⟨A1, c1, rfl, hl1, hm1, -⟩, us, ⟨A2, c2, rfl, hl2, hm2, hx2⟩, hul, hrows⟩ := hv
  rw [hul] at hl2 ⊢
  have HU := Lib.hid hul
  clear hul
  unfold maxLen at hm1 hm2
  have hb0 : Below w.heap.size w (w.alloc (.cells #[.int .i64 a.start, .slice A1 a.accept.length c1, .slice A2 a.next.length c2] 41)) := (Below.refl _ _).alloc (Nat.le_refl _) _
  have HW := Lib.hid l1In_any
  by_cases g2 : wi a.start 0 ((a.accept.length : Int) - 1) = true
  · by_cases g3 : a.next.length = a.accept.length
    · have HG3 := Lib.hid g3
      have g3' : ((a.next.length : Int) != (a.accept.length : Int)) = false := by simp; omega
      have hr : auFits a = a.next.all (rowOk a.accept.length) := by simp [auFits, g2, g3]
      have HR := Lib.hid hr
      clear hr g3
      obtain ⟨hn1, hn2⟩ := wi_iff.1 g2
      go_enter Try.func111, Try.ntmps111
      go_wp2_with (go_at_call 36; refine (HW.out _ _ _ _).mono ?_; rintro e w' ⟨rfl, rfl⟩)
      go_loop [4, 5] (fun ii jj => ∃ i : Nat, i ≤ a.accept.length ∧ ii = .int .i64 i ∧ (a.next.take i).all (rowOk a.accept.length) = true) (fun ii _ => a.accept.length - (intOf ii).toNat)
      case atStart => exact ⟨0, Nat.zero_le _, rfl, rfl⟩
      case round =>
        obtain ⟨i, hi, rfl, hall⟩ := hrel
        have HA := Lib.hid hall
        clear hall
        by_cases hlt : i < a.accept.length
        · have hlt' : i < a.next.length := by have := HG3.out; omega
          obtain ⟨u, hu⟩ : ∃ u, us[i]? = some u := ⟨_, List.getElem?_eq_getElem (by have := HU.out; omega)⟩
          obtain ⟨b, o, rfl, -, hb1, hc⟩ := hx2 i u hu
          have hxi : a.next[i]? = some a.next[i] := List.getElem?_eq_getElem hlt'
          have hvi := hrows i u _ hu hxi
          generalize a.next[i] = row at hvi hxi
          have c0 := hc 0 _ rfl
          simp only [Nat.mul_one, Nat.add_zero] at c0
          obtain ⟨A3, c3, rfl, hl3, hm3, hx3⟩ := hvi
          unfold maxLen at hm3
          have HX := Lib.hid hxi
          clear hc hx2 hu hxi hrows
          by_cases g9 : row.length = 9
          · have g9' : ((row.length : Int) != 9) = false := by simp; omega
            have HG9 := Lib.hid g9
            have hl9 : 9 ≤ row.length := by omega
            clear g9
            go_wp2_with fail
            go_loop [5] (fun jj => ∃ j : Nat, j ≤ 9 ∧ jj = .int .i64 j ∧ (row.take j).all (fun t => wi t (-1) ((a.accept.length : Int) - 1)) = true) (fun jj => 9 - (intOf jj).toNat)
            case atStart => exact ⟨0, Nat.zero_le _, rfl, rfl⟩
            case round =>
              obtain ⟨j, hj, rfl, hall2⟩ := hrel
              have HB := Lib.hid hall2
              clear hall2
              by_cases hlt2 : j < 9
              · have hlt3 : j < row.length := by omega
                have hxj : row[j]? = some row[j] := List.getElem?_eq_getElem hlt3
                obtain ⟨b2, o2, rfl, -, hb2, hc2⟩ := hx3 j _ hxj
                generalize row[j] = t at hc2 hxj
                have d0 := hc2 0 _ rfl
                simp only [Nat.mul_one, Nat.add_zero] at d0
                have HXJ := Lib.hid hxj
                clear hc2 hx3 hxj
                by_cases g4 : wi t (-1) ((a.accept.length : Int) - 1) = true
                · go_wp2_with (go_at_call 36; refine (HW.out _ _ _ _).mono ?_; rintro e w' ⟨rfl, rfl⟩)
                  go_round
                  case rel => exact ⟨j + 1, by omega, by go_num, all_take_succ HXJ.out HB.out g4⟩
                  case measure => simp [intOf]; omega
                · simp only [Bool.not_eq_true] at g4
                  have hfin : auFits a = false := by
                    rw [HR.out]
                    refine all_false_of HX.out ?_
                    rw [rowOk, all_false_of HXJ.out g4]
                    rfl
                  have HF := Lib.hid hfin
                  clear hfin
                  go_wp2_with (go_at_call 36; refine (HW.out _ _ _ _).mono ?_; rintro e w' ⟨rfl, rfl⟩)
                  go_ret
                  exact ⟨by rw [HF.out]; rfl, hb0⟩
              · obtain rfl : j = 9 := by omega
                have hok : rowOk a.accept.length row = true := by
                  have h3 := HB.out
                  rw [show 9 = row.length from HG9.out.symm, List.take_length] at h3
                  rw [rowOk, h3, HG9.out]
                  rfl
                have HO := Lib.hid hok
                clear hok hx3
                go_wp2_with fail
                go_round
                case rel => exact ⟨i + 1, by omega, by go_num, all_take_succ HX.out HA.out HO.out⟩
                case measure => simp [intOf]; omega
          · have g9' : ((row.length : Int) != 9) = true := by simp; omega
            have hfin : auFits a = false := by
              rw [HR.out]
              refine all_false_of HX.out ?_
              rw [rowOk]
              simp [g9]
            have HF := Lib.hid hfin
            clear hfin g9
            go_wp2_with fail
            go_ret
            exact ⟨by rw [HF.out]; rfl, hb0⟩
        · obtain rfl : i = a.accept.length := by omega
          have hfin : auFits a = true := by rw [HR.out]; have := HA.out; rw [← HG3.out, List.take_length] at this; rw [HG3.out] at this; exact this
          have HF := Lib.hid hfin
          clear hfin hx2 hrows
          go_wp2_with fail
          go_ret
          exact ⟨by rw [HF.out]; rfl, hb0⟩
    · have g3' : ((a.next.length : Int) != (a.accept.length : Int)) = true := by simp; omega
      have hr : auFits a = false := by simp [auFits, g3]
      have HR := Lib.hid hr
      clear hr g3
      go_enter Try.func111, Try.ntmps111
      go_wp2_with (go_at_call 36; refine (HW.out _ _ _ _).mono ?_; rintro e w' ⟨rfl, rfl⟩)
      go_ret
      exact ⟨by rw [HR.out]; rfl, hb0⟩
  · simp only [Bool.not_eq_true] at g2
    have hr : auFits a = false := by simp [auFits, g2]
    have HR := Lib.hid hr
    clear hr
    go_enter Try.func111, Try.ntmps111
    go_wp2_with (go_at_call 36; refine (HW.out _ _ _ _).mono ?_; rintro e w' ⟨rfl, rfl⟩)
    go_ret
    exact ⟨by rw [HR.out]; rfl, hb0⟩

theorem specValidAutomaton (v : Value) (a : Au) (w : World) (hv : AuV 0 w.heap.size w v a) :
    Calls Try.prog 93 #[v] w fun e w' => e = .returned (.bool (auOk a)) ∧ Below w.heap.size w w' := by
  have hv0 := hv
  obtain ⟨ac, nx, rfl, ⟨A1, c1, rfl, hl1, hm1, -⟩, -⟩ := hv
  unfold maxLen at hm1
  have hb0 : Below w.heap.size w (w.alloc (.cells #[.int .i64 a.start, .slice A1 a.accept.length c1, nx] 41)) := (Below.refl _ _).alloc (Nat.le_refl _) _
  have hok := auFits_ok a
  by_cases g : a.accept.length ≤ 12
  · have e1 : decide ((a.accept.length : Int) ≤ 12) = true := by simp; omega
    rw [decide_eq_true g, Bool.true_and] at hok
    have HO := Lib.hid hok
    clear hok
    go_enter Try.func93, Try.ntmps93
    go_wp2_with fail
    refine (l11Fits_any _ a _ (hv0.keep hb0)).mono ?_
    rintro e w1 ⟨rfl, hb1⟩
    go_wp2_with fail
    go_ret
    exact ⟨by rw [← HO.out]; rfl, below_trans hb0 hb1⟩
  · have e1 : decide ((a.accept.length : Int) ≤ 12) = false := by simp; omega
    rw [decide_eq_false g, Bool.false_and] at hok
    have HO := Lib.hid hok
    clear hok
    go_enter Try.func93, Try.ntmps93
    go_wp2_with fail
    go_ret
    exact ⟨by rw [← HO.out]; rfl, hb0⟩

end Go.Proofs.Ytlhpcknpjdeebaa

