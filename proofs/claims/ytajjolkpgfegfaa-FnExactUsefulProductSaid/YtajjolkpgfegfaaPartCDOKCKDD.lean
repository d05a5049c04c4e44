/- Parts of the proof, joined into one text: Nest, LawKit, DistM, SpreadM, NextM, GoalM, DistP, BackM, StepsM, AutS, GraphS. -/
import Derived.Test.YtajjolkpgfegfaaPartPIICNDDB
import Derived.Test.YtajjolkpgfegfaaPartBLNKPCEN
import Derived.Test.YtajjolkpgfegfaaPartEMKLPAPB
/- Rows of rows of the call's own, told by the blocks that they hold: an outer row of slices, each of them a row of its own, no two in one block. Over any program. -/
namespace Go.Proofs.Ytajjolkpgfegfaa
set_option linter.unusedVariables false
set_option linter.unusedSimpArgs false
open Go.ChangeShapes Go.WideShapes Go.ChangeAt Go.RowKit

section
variable {H b o : Nat} {w : World}
theorem SlC.intA {xs : List Int} (h : SlC H w cI 1 (some ⟨b, o, none⟩) xs) {i : Nat} {x : Int} (hx : xs[i]? = some x) : b < H ∧ w.cell? ⟨b, o + i, none⟩ = some (.int .i64 x) := by
  obtain ⟨b', o', e, h1, h2⟩ := h.int hx
  injection e with e
  injection e with e1 e2
  subst e1 e2
  exact ⟨h1, h2⟩
theorem SlC.natA {xs : List Nat} (h : SlC H w cN 1 (some ⟨b, o, none⟩) xs) {i : Nat} {x : Nat} (hx : xs[i]? = some x) : b < H ∧ w.cell? ⟨b, o + i, none⟩ = some (.int .i64 (x : Int)) := by
  obtain ⟨b', o', e, h1, h2⟩ := h.nat hx
  injection e with e
  injection e with e1 e2
  subst e1 e2
  exact ⟨h1, h2⟩
theorem SlC.stA {xs : List St} (h : SlC H w cSt 2 (some ⟨b, o, none⟩) xs) {i : Nat} {x : St} (hx : xs[i]? = some x) : b < H ∧ w.cell? ⟨b, o + i * 2, none⟩ = some (.int .i64 x.1) ∧ w.cell? ⟨b, o + i * 2 + 1, none⟩ = some (.bool x.2) := by
  obtain ⟨b', o', e, h1, h2, h3⟩ := h.st hx
  injection e with e
  injection e with e1 e2
  subst e1 e2
  exact ⟨h1, h2, h3⟩
end
theorem flatCV (l : List Value) : l.flatMap cV = l := by
  induction l with
  | nil => rfl
  | cons x l ih => rw [List.flatMap_cons, ih]; rfl
/-- the blocks that slices hold -/
abbrev blks (us : List Value) : List Nat := us.filterMap Value.ownBlock
structure NS {α : Type} (lo : Nat) (w : World) (oT eT : TypeId) (E : α → List Value) (k : Nat) (v : Value) (us : List Value) (xss : List (List α)) : Prop where
  own : w.ownsRow lo oT 1 v us.length (us.flatMap cV)
  len : us.length = xss.length
  rows : ∀ (i : Nat) (u : Value) (xs : List α), us[i]? = some u → xss[i]? = some xs → w.ownsRow lo eT k u xs.length (xs.flatMap E)
  dis : (blks (v :: us)).Nodup
section
variable {α : Type} {lo : Nat} {w w' : World} {oT eT : TypeId} {E : α → List Value} {k : Nat} {v : Value} {us : List Value} {xss : List (List α)}
theorem mem_blks {us : List Value} {b : Nat} : b ∈ blks us ↔ ∃ (i : Nat) (u : Value), us[i]? = some u ∧ u.ownBlock = some b := by
  rw [List.mem_filterMap]
  constructor
  · rintro ⟨u, hu, hb⟩
    obtain ⟨i, hi⟩ := List.getElem?_of_mem hu
    exact ⟨i, u, hi, hb⟩
  · rintro ⟨i, u, hu, hb⟩
    exact ⟨u, List.mem_of_getElem? hu, hb⟩
theorem NS.lt (h : NS lo w oT eT E k v us xss) : ∀ b ∈ blks (v :: us), lo ≤ b ∧ b < w.heap.size := by
  intro b hb
  obtain ⟨i, u, hu, hbu⟩ := mem_blks.1 hb
  cases i with
  | zero =>
    simp only [List.getElem?_cons_zero, Option.some.injEq] at hu
    subst hu
    exact h.own.lt b hbu
  | succ i =>
    rw [List.getElem?_cons_succ] at hu
    have hi : i < xss.length := by rw [← h.len]; exact (List.getElem?_eq_some_iff.1 hu).1
    exact (h.rows i u _ hu (List.getElem?_eq_getElem hi)).lt b hbu
theorem NS.blocks (h : NS lo w oT eT E k v us xss) (hb : ∀ b ∈ blks (v :: us), w'.heap[b]? = w.heap[b]?) : NS lo w' oT eT E k v us xss :=
  ⟨ownsRow_block h.own fun g hg => hb g (mem_blks.2 ⟨0, v, rfl, hg⟩), h.len,
    fun i u xs hu hx => ownsRow_block (h.rows i u xs hu hx) fun g hg => hb g (mem_blks.2 ⟨i + 1, u, by simpa using hu, hg⟩), h.dis⟩
theorem NS.below (h : NS lo w oT eT E k v us xss) (hb : Below w.heap.size w w') : NS lo w' oT eT E k v us xss := h.blocks fun b hm => hb.block b (h.lt b hm).2
theorem NS.mono (h : NS lo w oT eT E k v us xss) {lo' : Nat} (hl : lo' ≤ lo) : NS lo' w oT eT E k v us xss :=
  ⟨ownsRow_mono h.own hl, h.len, fun i u xs hu hx => ownsRow_mono (h.rows i u xs hu hx) hl, h.dis⟩
theorem NS.start (h : w.ownsRow lo oT 1 v 0 []) : NS lo w oT eT E k v [] ([] : List (List α)) :=
  ⟨h, rfl, fun i u xs hu _ => by simp at hu, by cases hv : v.ownBlock <;> simp [hv]⟩
theorem NS.push (h : NS lo w oT eT E k v us xss) {u : Value} {xs : List α} (hu : w.ownsRow lo eT k u xs.length (xs.flatMap E)) (hn : ∀ b, u.ownBlock = some b → b ∉ blks (v :: us))
    {v' : Value} (hg : w.grownBy w' v.ownBlock) (hr : w'.ownsRow lo oT 1 v' (us ++ [u]).length ((us ++ [u]).flatMap cV)) (hat : ∀ g, v'.ownBlock = some g → v.ownBlock = some g ∨ w.heap.size ≤ g) :
    NS lo w' oT eT E k v' (us ++ [u]) (xss ++ [xs]) := by
  have hdis := h.dis
  have hkeep : ∀ (u' : Value) (n : Nat) (cs : List Value), w.ownsRow lo eT k u' n cs → (∀ b, u'.ownBlock = some b → v.ownBlock ≠ some b) → w'.ownsRow lo eT k u' n cs := fun u' n cs ho hne => by
    refine ho.kept hg ?_
    cases hb : u'.ownBlock with
    | none => exact .inl rfl
    | some b => exact .inr fun e => hne b hb e.symm
  have hv0 : ∀ b, v.ownBlock = some b → b ∉ blks us := fun b hb => by
    rw [blks, List.filterMap_cons, hb] at hdis
    exact (List.nodup_cons.1 hdis).1
  refine ⟨hr, by simp [h.len], fun i u' xs' hi hx => ?_, ?_⟩
  · rcases Nat.lt_or_ge i us.length with hlt | hge
    · rw [List.getElem?_append_left hlt] at hi
      rw [List.getElem?_append_left (by rw [← h.len]; exact hlt)] at hx
      exact hkeep _ _ _ (h.rows i u' xs' hi hx) fun b hb hvb => hv0 b hvb (mem_blks.2 ⟨i, u', hi, hb⟩)
    · have hi2 := (List.getElem?_eq_some_iff.1 hi).1
      simp only [List.length_append, List.length_singleton] at hi2
      obtain rfl : i = us.length := by omega
      have e1 : u = u' := by simpa using hi
      have e2 : xs = xs' := by rw [h.len] at hx; simpa using hx
      subst e1 e2
      exact hkeep _ _ _ hu fun b hb hvb => hn b hb (mem_blks.2 ⟨0, v, rfl, hvb⟩)
  · have hlt := h.lt
    have hus : (blks us).Nodup := by
      cases hv : v.ownBlock with
      | none => simpa [blks, List.filterMap_cons, hv] using hdis
      | some b => rw [blks, List.filterMap_cons, hv] at hdis; exact (List.nodup_cons.1 hdis).2
    have hnu : ∀ b, u.ownBlock = some b → b ∉ blks us := fun b hb hm => hn b hb (by
      obtain ⟨i, u', h1, h2⟩ := mem_blks.1 hm
      exact mem_blks.2 ⟨i + 1, u', by simpa using h1, h2⟩)
    have hall : (blks (us ++ [u])).Nodup := by
      rw [blks, List.filterMap_append]
      cases hub : u.ownBlock with
      | none => simpa [List.filterMap_cons, hub] using hus
      | some b =>
        rw [List.filterMap_cons, hub]
        refine List.nodup_append.2 ⟨hus, by simp, ?_⟩
        intro x hx y hy e
        simp only [List.filterMap_nil, List.mem_cons, List.not_mem_nil, or_false] at hy
        subst hy
        subst e
        exact hnu _ hub hx
    rw [blks, List.filterMap_cons]
    cases hv' : v'.ownBlock with
    | none => exact hall
    | some g =>
      refine List.nodup_cons.2 ⟨fun hm => ?_, hall⟩
      obtain ⟨i, u', hi, hb⟩ := mem_blks.1 hm
      rcases Nat.lt_or_ge i us.length with hl | hge
      · rw [List.getElem?_append_left hl] at hi
        rcases hat g hv' with h1 | h1
        · exact hv0 g h1 (mem_blks.2 ⟨i, u', hi, hb⟩)
        · have := (hlt g (mem_blks.2 ⟨i + 1, u', by simpa using hi, hb⟩)).2
          omega
      · have hi2 := (List.getElem?_eq_some_iff.1 hi).1
        simp only [List.length_append, List.length_singleton] at hi2
        obtain rfl : i = us.length := by omega
        have e1 : u = u' := by simpa using hi
        subst e1
        rcases hat g hv' with h1 | h1
        · exact hn g hb (mem_blks.2 ⟨0, v, rfl, h1⟩)
        · have := (hu.lt g hb).2
          omega
theorem grown_alloc {o : Obj} {row : Option Nat} (h : (w.alloc o).grownBy w' row) : w.grownBy w' row :=
  ⟨h.os, h.tape, h.output, Nat.le_trans (by simp) h.size, fun n hn hne => (h.block n (by simp; omega) hne).trans (Below.heap_alloc w o n hn)⟩
/-- what is read of it: the header of row i, and the row -/
theorem NS.row (h : NS lo w oT eT E k v us xss) (hE : ∀ x, (E x).length = k) {i : Nat} {xs : List α} (hx : xss[i]? = some xs) :
    ∃ g cap A c, v = .slice (some ⟨g, 0, none⟩) xss.length cap ∧ us[i]? = some (.slice A xs.length c) ∧ g < w.heap.size ∧ w.cell? ⟨g, i, none⟩ = some (.slice A xs.length c) ∧ xs.length ≤ c ∧ c ≤ maxLen ∧ SlI lo w.heap.size w E k (.slice A xs.length c) xs := by
  have hi : i < us.length := by rw [h.len]; exact (List.getElem?_eq_some_iff.1 hx).1
  have hu : us[i]? = some us[i] := List.getElem?_eq_getElem hi
  have hr := h.rows i _ xs hu hx
  generalize us[i] = u at hu hr
  have hsl := (Own.of_row (xs := xs) hr rfl rfl).sl hE
  have hsl' := hsl
  obtain ⟨A, c, rfl, hl, hm, -⟩ := hsl'
  have hown := h.own
  have hlt := h.own.lt
  rw [flatCV] at hown
  have hown2 := hown
  obtain ⟨h1, h2⟩ := hown2
  rcases h2 with ⟨rfl, h3⟩ | ⟨g, cap, cur, rfl, r⟩
  · omega
  · refine ⟨g, cap, A, c, by rw [h.len], hu, (hlt g rfl).2, ?_, hl, hm, hsl⟩
    rw [World.ownsRow.cellAt hown i (by omega)]
    exact hu
theorem NS.at (h : NS lo w oT eT E k v us xss) (hE : ∀ x, (E x).length = k) {g n cap : Nat} (hv : v = .slice (some ⟨g, 0, none⟩) n cap) {i : Nat} {xs : List α} (hx : xss[i]? = some xs) :
    ∃ A c, w.cell? ⟨g, i, none⟩ = some (.slice A xs.length c) ∧ xs.length ≤ c ∧ c ≤ 9223372036854775807 ∧ SlI lo w.heap.size w E k (.slice A xs.length c) xs := by
  obtain ⟨g', cap', A, c, hv', -, -, hc, h1, h2, h3⟩ := h.row hE hx
  rw [hv] at hv'
  injection hv' with e1 _ _
  injection e1 with e1
  injection e1 with e1
  subst e1
  exact ⟨A, c, hc, h1, h2, h3⟩
/-- a row that is not empty has a block of its own -/
theorem own_some {W : World} {base k n : Nat} {e : TypeId} {v : Value} {cs : List Value} (h : W.ownsRow base e k v n cs) (hn : n ≠ 0) : ∃ g c, v = .slice (some ⟨g, 0, none⟩) n c ∧ base ≤ g ∧ g < W.heap.size ∧ n ≤ c ∧ c ≤ 9223372036854775807 := by
  have hlt := h.lt
  obtain ⟨h1, h2⟩ := h
  rcases h2 with ⟨rfl, h3⟩ | ⟨g, cap, cur, rfl, h4, h5, h6, h7, r⟩
  · exact absurd h3 hn
  · exact ⟨g, cap, rfl, h4, (hlt g rfl).2, h6, h7⟩
theorem NS.shape (h : NS lo w oT eT E k v us xss) : ∃ A c, v = .slice A xss.length c ∧ xss.length ≤ c ∧ c ≤ maxLen := by
  obtain ⟨h1, h2⟩ := h.own
  rcases h2 with ⟨rfl, h3⟩ | ⟨g, cap, cur, rfl, h4, h5, h6, h7, r⟩
  · exact ⟨none, 0, by rw [← h.len, h3], by rw [← h.len, h3]; exact Nat.le_refl _, by unfold maxLen; omega⟩
  · exact ⟨_, cap, by rw [h.len], by rw [← h.len]; exact h6, h7⟩
end
end Go.Proofs.Ytajjolkpgfegfaa

/- Words for laws whose results lie in memory: what is owned outlives marks elsewhere; rows of rows are marked whatever the order of their blocks. -/
namespace Go.Proofs.Ytajjolkpgfegfaa
set_option linter.unusedVariables false
set_option linter.unusedSimpArgs false
open Go.ChangeShapes Go.WideShapes Go.ChangeAt Go.RowKit
attribute [local go_sem] ext_cell ext_frozen ext_lt ext_lt1 ext_lt2 ext_lt3 ltn2 ltn3 ltn13 lts1 lts2 lts3

theorem GrO.only {lo hi : Nat} {w w' : World} {v : Value} {g : Gr} (h : GrO lo hi w v g) {l r : Nat} (hb : Only l r w w') (ho : hi ≤ l ∨ r ≤ lo) : GrO lo hi w' v g := by
  obtain ⟨vs, es, mid, rfl, h1, h2, h3, h4⟩ := h
  exact ⟨vs, es, mid, rfl, h1.only hb (by omega), h2.only hb (by omega), h3, h4⟩
theorem AuO.only {lo hi : Nat} {w w' : World} {v : Value} {a : Au} (h : AuO lo hi w v a) {l r : Nat} (hb : Only l r w w') (ho : hi ≤ l ∨ r ≤ lo) : AuO lo hi w' v a := by
  obtain ⟨ac, nx, mid, rfl, h1, h2, h3, h4⟩ := h
  exact ⟨ac, nx, mid, rfl, h1.only hb (by omega), h2.only hb (by omega), h3, h4⟩

theorem ownsRow_base {w : World} {base b k n : Nat} {e : TypeId} {v : Value} {cs : List Value} (hb : ∀ g, v.ownBlock = some g → b ≤ g) (h : w.ownsRow base e k v n cs) : w.ownsRow b e k v n cs := by
  obtain ⟨hl, hs⟩ := h
  rcases hs with ⟨rfl, hn⟩ | ⟨g, cap, cur, rfl, hg, r⟩
  · exact ⟨hl, .inl ⟨rfl, hn⟩⟩
  · exact ⟨hl, .inr ⟨g, cap, cur, rfl, hb g rfl, r⟩⟩
theorem filterMap_inj {α β : Type} {f : α → Option β} {L : List α} (h : (L.filterMap f).Nodup) {i j : Nat} {x y : α} (hi : L[i]? = some x) (hj : L[j]? = some y) {b : β} (hx : f x = some b) (hy : f y = some b) : i = j := by
  have hp := List.pairwise_filterMap.1 h
  rw [List.pairwise_iff_getElem] at hp
  obtain ⟨hi1, hi2⟩ := List.getElem?_eq_some_iff.1 hi
  obtain ⟨hj1, hj2⟩ := List.getElem?_eq_some_iff.1 hj
  rcases Nat.lt_trichotomy i j with hl | he | hg
  · exact absurd rfl (hp i j hi1 hj1 hl b (by rw [hi2]; exact hx) b (by rw [hj2]; exact hy))
  · exact he
  · exact absurd rfl (hp j i hj1 hi1 hg b (by rw [hj2]; exact hy) b (by rw [hi2]; exact hx))
theorem NS.turn {α : Type} {lo : Nat} {w w' : World} {oT eT : TypeId} {E : α → List Value} {k : Nat} {v : Value} {us : List Value} {xss : List (List α)} (h : NS lo w oT eT E k v us xss) {i : Nat} {u : Value} {xs' : List α} (hu : us[i]? = some u)
    (hr : w'.ownsRow lo eT k u xs'.length (xs'.flatMap E)) (hb : ∀ b ∈ blks (v :: us), u.ownBlock ≠ some b → w'.heap[b]? = w.heap[b]?) : NS lo w' oT eT E k v us (xss.set i xs') := by
  have hdis := h.dis
  refine ⟨ownsRow_block h.own fun g hg => hb g (mem_blks.2 ⟨0, v, rfl, hg⟩) fun e => ?_, by simp [h.len], fun j u2 xs2 hj hx => ?_, hdis⟩
  · have := filterMap_inj (i := 0) (j := i + 1) hdis rfl (by simpa using hu) hg e
    omega
  · by_cases hij : i = j
    · subst hij
      rw [hu] at hj
      injection hj with hj
      subst hj
      have hl := (List.getElem?_eq_some_iff.1 hx).1
      rw [List.length_set] at hl
      rw [List.getElem?_set_self hl] at hx
      injection hx with hx
      subst hx
      exact hr
    · rw [List.getElem?_set_ne hij] at hx
      refine ownsRow_block (h.rows j u2 xs2 hj hx) fun g hg => hb g (mem_blks.2 ⟨j + 1, u2, by simpa using hj, hg⟩) fun e => ?_
      have := filterMap_inj (i := i + 1) (j := j + 1) hdis (by simpa using hu) (by simpa using hj) e hg
      omega
/-- an owned row lies in its own block alone -/
theorem own_tight {α : Type} {E : α → List Value} {w : World} {base k : Nat} {e : TypeId} {v : Value} {xs : List α} (h : w.ownsRow base e k v xs.length (xs.flatMap E)) :
    ∃ l r, Own l r w e E k v xs ∧ (∀ b, l ≤ b → b < r → v.ownBlock = some b) ∧ (l < r → base ≤ l ∧ r ≤ w.heap.size) := by
  have hlt := h.lt
  obtain ⟨hl, hs⟩ := h
  rcases hs with ⟨rfl, hn⟩ | ⟨g, cap, cur, rfl, hg, hh, rr⟩
  · exact ⟨0, 0, ⟨⟨hl, .inl ⟨rfl, hn⟩⟩, by intro g hg; cases hg⟩, by intro b _ hb; omega, by omega⟩
  · have h2 := hlt g rfl
    refine ⟨g, g + 1, ⟨⟨hl, .inr ⟨g, cap, cur, rfl, Nat.le_refl _, hh, rr⟩⟩, by intro b hb; injection hb with hb; subst hb; exact Nat.lt_succ_self _⟩, fun b h1 h2 => ?_, fun _ => by omega⟩
    obtain rfl : b = g := by omega
    rfl

/-- rows of rows whose blocks all lie from lo to hi -/
def NSO (lo hi : Nat) (w : World) (v : Value) (xss : List (List Int)) : Prop :=
  ∃ us, NS lo w 22 3 cI 1 v us xss ∧ ∀ b ∈ blks (v :: us), b < hi
section
variable {lo hi : Nat} {w w' : World} {v : Value} {xss : List (List Int)}
theorem NSO.of {us : List Value} (h : NS lo w 22 3 cI 1 v us xss) : NSO lo w.heap.size w v xss := ⟨us, h, fun b hb => (h.lt b hb).2⟩
theorem NSO.view (h : NSO lo hi w v xss) : SSV lo hi w v xss := by
  obtain ⟨us, h, hl⟩ := h
  refine ⟨us, Own.sl ⟨h.own, fun g hg => hl g (mem_blks.2 ⟨0, v, rfl, hg⟩)⟩ cV_len, h.len, fun i u xs hu hx => ?_⟩
  exact Own.sl ⟨h.rows i u xs hu hx, fun g hg => hl g (mem_blks.2 ⟨i + 1, u, by simpa using hu, hg⟩)⟩ cI_len
theorem NSO.below (h : NSO lo hi w v xss) {B : Nat} (hb : Below B w w') (hB : hi ≤ B) : NSO lo hi w' v xss := by
  obtain ⟨us, h, hl⟩ := h
  exact ⟨us, h.blocks fun b hm => hb.block b (by have := hl b hm; omega), hl⟩
theorem NSO.only (h : NSO lo hi w v xss) {l r : Nat} (hb : Only l r w w') (ho : hi ≤ l ∨ r ≤ lo) : NSO lo hi w' v xss := by
  obtain ⟨us, h, hl⟩ := h
  exact ⟨us, h.blocks fun b hm => hb.block b (h.lt b hm).2 (by have := hl b hm; have := (h.lt b hm).1; omega), hl⟩
theorem NSO.mono (h : NSO lo hi w v xss) {lo' hi' : Nat} (h1 : lo' ≤ lo) (h2 : hi ≤ hi') : NSO lo' hi' w v xss := by
  obtain ⟨us, h, hl⟩ := h
  exact ⟨us, h.mono h1, fun b hb => by have := hl b hb; omega⟩
end

set_option maxHeartbeats 1000000 in
theorem markNS_any (lo hi : Nat) (v : Value) (xss : List (List Int)) (k : Int) (w : World) (hv : NSO lo hi w v xss) (hk : 0 ≤ k) (hb : k + sumLen xss ≤ 4611686018427387904) (hhi : hi ≤ w.heap.size) :
    Calls Try.prog 39 #[v, .int .i64 k] w fun en w' => en = .returned (.int .i64 (k + sumLen xss)) ∧ NSO lo hi w' v (mkSS k xss) ∧ Only lo hi w w' := by
  obtain ⟨us, hns, hlt⟩ := hv
  obtain ⟨A, c, rfl, hl, hm⟩ := hns.shape
  have HNS0 := Lib.hid hns
  have HLT := Lib.hid hlt
  unfold maxLen at hm
  have hz := fun i => sumLen_take_le xss i
  clear hns hlt
  go_enter Try.func39, Try.ntmps39
  go_wp2
  go_loopw [1, 5] (fun kk ii wr => ∃ i : Nat, i ≤ xss.length ∧ kk = .int .i64 (k + sumLen (xss.take i)) ∧ ii = .int .i64 i ∧ NS lo wr 22 3 cI 1 (.slice A xss.length c) us (mkSS k (xss.take i) ++ xss.drop i) ∧ Only lo hi w wr) (fun _ ii _ => xss.length - (intOf ii).toNat)
  case atStart => exact ⟨0, Nat.zero_le _, by simp [sumLen], rfl, by simpa [mkSS] using HNS0.out, Only.refl _ _ _⟩
  case round =>
    obtain ⟨i, hi', rfl, rfl, hns, honly⟩ := hrel
    have HNS := Lib.hid hns
    clear hns
    by_cases hlt : i < xss.length
    · have hxi : xss[i]? = some xss[i] := List.getElem?_eq_getElem hlt
      have hd2 := List.drop_eq_getElem_cons hlt
      have hz1 := hz i
      have hz2 := hz (i + 1)
      have ht2 : xss.take (i + 1) = xss.take i ++ [xss[i]] := take_snoc hxi
      generalize xss[i] = xs at hd2 ht2 hxi
      have hmi : (mkSS k (xss.take i) ++ xss.drop i)[i]? = some xs := by
        rw [List.getElem?_append_right (by rw [mkSS_len, List.length_take]; omega), mkSS_len, List.length_take, hd2]
        simp [Nat.min_eq_left (Nat.le_of_lt hlt)]
      obtain ⟨g, cap, A1, c1, hv1, hui, hgl, hcell, -, -, -⟩ := HNS.out.row cI_len hmi
      have hri := HNS.out.rows i _ xs hui hmi
      injection hv1 with e1 e2 e3
      subst e1
      obtain ⟨l, r, hown, htight, hlr⟩ := own_tight hri
      have hri2 := hri.lt
      have hsum : sumLen (xss.take (i + 1)) = sumLen (xss.take i) + xs.length := by rw [ht2, sumLen_app]; simp [sumLen]
      have hmk : (mkSS k (xss.take i) ++ xss.drop i).set i (mkInt (k + sumLen (xss.take i)) xs.length) = mkSS k (xss.take (i + 1)) ++ xss.drop (i + 1) := by
        rw [ht2, mkSS_app, hd2, List.set_append_right _ _ (by rw [mkSS_len, List.length_take]; omega), mkSS_len, List.length_take, Nat.min_eq_left (Nat.le_of_lt hlt), Nat.sub_self]
        simp [mkSS]
      rw [hsum] at hz2
      have HS := Lib.hid hsum
      have HM := Lib.hid hmk
      have HUI := Lib.hid hui
      have HT := Lib.hid htight
      have HLR := Lib.hid hlr
      have HOWN := Lib.hid hown
      have hcell : wr.cell? ⟨g, i, none⟩ = some (.slice A1 xs.length c1) := hcell
      have hsw := honly.size
      have hhi2 : hi ≤ wr.heap.size := by omega
      have hrb : l < r → lo ≤ l ∧ r ≤ hi := fun h => ⟨(hlr h).1, by
        have := htight (r - 1) (by omega) (by omega)
        have := HLT.out (r - 1) (mem_blks.2 ⟨i + 1, _, by simpa using hui, this⟩)
        omega⟩
      have HRB := Lib.hid hrb
      clear hxi hd2 ht2 hmi hui hri hri2 hsum hmk hz htight hlr hown e2 e3 hrb
      go_wp2_with fail
      refine (markIntS_any l r _ _ xs (k + sumLen (xss.take i)) _ HOWN.out (by omega) (by omega)).mono ?_
      rintro e w2 ⟨rfl, ho2, hon2⟩
      go_wp2_with fail
      go_roundw
      case rel =>
        refine ⟨i + 1, by omega, ?_, by go_num, ?_, ?_⟩
        · rw [HS.out]; go_num
        · rw [← HM.out]
          refine HNS.out.turn HUI.out ?_ fun b hm hne => hon2.block b (HNS.out.lt b hm).2 ?_
          · refine ownsRow_base ?_ ho2.1
            intro g hg
            rcases Nat.lt_or_ge l r with h | h
            · have := HRB.out h
              have := ho2.lt g hg
              omega
            · have := ho2.lt g hg
              omega
          · rcases Nat.lt_or_ge b l with h | h
            · exact .inl h
            · rcases Nat.lt_or_ge b r with h2 | h2
              · exact absurd (HT.out b h h2) hne
              · exact .inr h2
        · rcases Nat.lt_or_ge l r with h | h
          · exact honly.trans (hon2.mono (HRB.out h).1 (HRB.out h).2)
          · exact honly.trans ⟨hon2.os, hon2.tape, hon2.output, hon2.size, fun n hn _ => hon2.block n hn (by omega)⟩
      case measure => simp [intOf]; omega
    · obtain rfl : i = xss.length := by omega
      rw [List.take_length, List.drop_length, List.append_nil] at HNS
      clear hz
      go_wp2_with fail
      go_ret
      exact ⟨ret_int (by simp), ⟨us, HNS.out, HLT.out⟩, honly⟩
end Go.Proofs.Ytajjolkpgfegfaa

/- Plain: breadth first search finds the least number of steps to a goal. -/
namespace Go.Proofs.Ytajjolkpgfegfaa
set_option linter.unusedVariables false
set_option linter.unusedSimpArgs false

/-- a goal is n steps away from i -/
def toG (next : Nat → List Nat) (goal : Nat → Prop) : Nat → Nat → Prop
  | 0, i => goal i
  | n + 1, i => ∃ k ∈ next i, toG next goal n k
def IsDist (next : Nat → List Nat) (goal : Nat → Prop) (i : Nat) (d : Int) : Prop :=
  (d = -1 ∧ ∀ n, ¬ toG next goal n i) ∨ (0 ≤ d ∧ toG next goal d.toNat i ∧ ∀ m : Nat, m < d.toNat → ¬ toG next goal m i)
theorem IsDist.uniq {next : Nat → List Nat} {goal : Nat → Prop} {i : Nat} {d e : Int} (h : IsDist next goal i d) (k : IsDist next goal i e) : d = e := by
  rcases h with ⟨rfl, h⟩ | ⟨h0, h1, h2⟩
  · rcases k with ⟨rfl, _⟩ | ⟨_, k1, _⟩
    · rfl
    · exact absurd k1 (h _)
  · rcases k with ⟨rfl, k⟩ | ⟨k0, k1, k2⟩
    · exact absurd h1 (k _)
    · rcases Nat.lt_trichotomy d.toNat e.toNat with hlt | heq | hgt
      · exact absurd h1 (k2 _ hlt)
      · omega
      · exact absurd k1 (h2 _ hgt)

section
variable {prev next : Nat → List Nat} {goal : Nat → Prop} {N : Nat} {D : List Int} {q : List Nat}
structure BO (prev next : Nat → List Nat) (goal : Nat → Prop) (N : Nat) (D : List Int) (q : List Nat) : Prop where
  len : D.length = N
  sound : ∀ i, i < N → 0 ≤ D.getD i 0 → toG next goal (D.getD i 0).toNat i
  src : ∀ i, i < N → goal i → D.getD i 0 = 0
  done : ∀ k, k < N → 0 ≤ D.getD k 0 → k ∉ q → ∀ i ∈ prev k, 0 ≤ D.getD i 0 ∧ D.getD i 0 ≤ D.getD k 0 + 1
  top : ∀ h r, q = h :: r → ∀ i, i < N → D.getD i 0 ≤ D.getD h 0 + 1
  sorted : q.Pairwise (fun a b => D.getD a 0 ≤ D.getD b 0)
  qN : ∀ x ∈ q, x < N ∧ 0 ≤ D.getD x 0
  low : ∀ i, i < N → -1 ≤ D.getD i 0
structure BI (prev next : Nat → List Nat) (goal : Nat → Prop) (N : Nat) (D : List Int) (q : List Nat) (h : Nat) (l : List Nat) : Prop where
  len : D.length = N
  hN : h < N
  hD : 0 ≤ D.getD h 0
  sound : ∀ i, i < N → 0 ≤ D.getD i 0 → toG next goal (D.getD i 0).toNat i
  src : ∀ i, i < N → goal i → D.getD i 0 = 0
  done : ∀ k, k < N → 0 ≤ D.getD k 0 → k ∉ q → k ≠ h → ∀ i ∈ prev k, 0 ≤ D.getD i 0 ∧ D.getD i 0 ≤ D.getD k 0 + 1
  here : ∀ i ∈ prev h, i ∈ l ∨ (0 ≤ D.getD i 0 ∧ D.getD i 0 ≤ D.getD h 0 + 1)
  top : ∀ i, i < N → D.getD i 0 ≤ D.getD h 0 + 1
  qs : ∀ x ∈ q, D.getD h 0 ≤ D.getD x 0
  sorted : q.Pairwise (fun a b => D.getD a 0 ≤ D.getD b 0)
  qN : ∀ x ∈ q, x < N ∧ 0 ≤ D.getD x 0
  low : ∀ i, i < N → -1 ≤ D.getD i 0

theorem BO.enter {h : Nat} (b : BO prev next goal N D (h :: q)) : BI prev next goal N D q h (prev h) :=
  ⟨b.len, (b.qN h (by simp)).1, (b.qN h (by simp)).2, b.sound, b.src, fun k hk h0 hq hh => b.done k hk h0 (by simp [hq, hh]), fun i hi => .inl hi, b.top h q rfl,
    fun x hx => (List.pairwise_cons.1 b.sorted).1 x hx, (List.pairwise_cons.1 b.sorted).2, fun x hx => b.qN x (List.mem_cons_of_mem _ hx), b.low⟩
theorem BI.leave {h : Nat} (b : BI prev next goal N D q h []) : BO prev next goal N D q := by
  refine ⟨b.len, b.sound, b.src, fun k hk h0 hq => ?_, fun x r hx i hi => ?_, b.sorted, b.qN, b.low⟩
  · by_cases hkh : k = h
    · subst hkh
      intro i hi
      rcases b.here i hi with h | h
      · simp at h
      · exact h
    · exact b.done k hk h0 hq hkh
  · have h1 := b.top i hi
    have h2 := b.qs x (by rw [hx]; simp)
    omega
theorem BI.old {h k : Nat} {l : List Nat} (b : BI prev next goal N D q h (k :: l)) (hk : k < N) (h0 : ¬ D.getD k 0 < 0) : BI prev next goal N D q h l := by
  refine ⟨b.len, b.hN, b.hD, b.sound, b.src, b.done, fun i hi => ?_, b.top, b.qs, b.sorted, b.qN, b.low⟩
  rcases b.here i hi with h1 | h1
  · rcases List.mem_cons.1 h1 with rfl | h1
    · exact .inr ⟨by omega, b.top _ hk⟩
    · exact .inl h1
  · exact .inr h1
theorem BI.new {h k : Nat} {l : List Nat} (hpn : ∀ i k, i < N → k < N → i ∈ prev k → k ∈ next i) (hpN : ∀ i k, k < N → i ∈ prev k → i < N) (b : BI prev next goal N D q h (k :: l)) (hkp : k ∈ prev h) (h0 : D.getD k 0 < 0) :
    BI prev next goal N (D.set k (D.getD h 0 + 1)) (q ++ [k]) h l := by
  have hk : k < N := hpN k h b.hN hkp
  have hkl : k < D.length := by rw [b.len]; exact hk
  have hD := b.hD
  have hkh : k ≠ h := by intro e; subst e; omega
  have hh : (D.set k (D.getD h 0 + 1)).getD h 0 = D.getD h 0 := by rw [getD_set' hkl, if_neg (Ne.symm hkh)]
  have hset : ∀ x, x ≠ k → (D.set k (D.getD h 0 + 1)).getD x 0 = D.getD x 0 := fun x hx => by rw [getD_set' hkl, if_neg hx]
  have hsk : (D.set k (D.getD h 0 + 1)).getD k 0 = D.getD h 0 + 1 := by rw [getD_set' hkl, if_pos rfl]
  have hkq : ∀ x ∈ q, x ≠ k := fun x hx e => by subst e; have := (b.qN x hx).2; omega
  refine ⟨by rw [List.length_set]; exact b.len, b.hN, by rw [hh]; exact hD, fun i hi h1 => ?_, fun i hi hg => ?_, fun x hx h1 hxq hxh i hi => ?_, fun i hi => ?_, fun i hi => ?_, fun x hx => ?_, ?_, fun x hx => ?_, fun i hi => ?_⟩
  · by_cases e : i = k
    · subst e
      rw [hsk]
      have h2 := b.sound h b.hN hD
      rw [show (D.getD h 0 + 1).toNat = (D.getD h 0).toNat + 1 by omega]
      exact ⟨h, hpn i h hi b.hN hkp, h2⟩
    · rw [hset i e] at h1 ⊢
      exact b.sound i hi h1
  · have e : i ≠ k := by
      intro e; subst e
      have := b.src i hi hg
      omega
    rw [hset i e]
    exact b.src i hi hg
  · have e : x ≠ k := by intro e; subst e; simp at hxq
    rw [hset x e] at h1 ⊢
    have h2 := b.done x hx h1 (fun h => hxq (by simp [h])) hxh i hi
    have e2 : i ≠ k := by intro e2; subst e2; omega
    rw [hset i e2]
    exact h2
  · rw [hh]
    by_cases e : i = k
    · subst e
      refine .inr ?_
      rw [hsk]
      omega
    · rw [hset i e]
      rcases b.here i hi with h1 | h1
      · rcases List.mem_cons.1 h1 with h1 | h1
        · exact absurd h1 e
        · exact .inl h1
      · exact .inr h1
  · rw [hh]
    by_cases e : i = k
    · subst e; rw [hsk]; omega
    · rw [hset i e]; exact b.top i hi
  · rw [hh]
    rcases List.mem_append.1 hx with hx | hx
    · rw [hset x (hkq x hx)]; exact b.qs x hx
    · have : x = k := by simpa using hx
      subst this
      rw [hsk]; omega
  · rw [List.pairwise_append]
    refine ⟨?_, by simp, fun x hx y hy => ?_⟩
    · refine List.Pairwise.imp_of_mem (fun {x y} hx hy hxy => ?_) b.sorted
      rw [hset x (hkq x hx), hset y (hkq y hy)]
      exact hxy
    · have : y = k := by simpa using hy
      subst this
      rw [hset x (hkq x hx), hsk]
      exact b.top x (b.qN x hx).1
  · rcases List.mem_append.1 hx with hx | hx
    · rw [hset x (hkq x hx)]; exact b.qN x hx
    · have : x = k := by simpa using hx
      subst this
      rw [hsk]
      exact ⟨hk, by omega⟩
  · by_cases e : i = k
    · subst e; rw [hsk]; omega
    · rw [hset i e]; exact b.low i hi

theorem BI.all (hpn : ∀ i k, i < N → k < N → i ∈ prev k → k ∈ next i) (hpN : ∀ i k, k < N → i ∈ prev k → i < N) {h : Nat} : ∀ (l : List Nat) (D : List Int) (q : List Nat) (d : Int), d = D.getD h 0 + 1 → BI prev next goal N D q h l → (∀ k ∈ l, k ∈ prev h) →
    BO prev next goal N (relax d l D q).1 (relax d l D q).2 ∧ (relax d l D q).2.length + negs (relax d l D q).1 = q.length + negs D
  | [], _, _, _, _, b, _ => ⟨b.leave, rfl⟩
  | k :: l, D, q, d, hd, b, hl => by
    have hk : k < N := hpN k h b.hN (hl k (by simp))
    rw [relax]
    by_cases h0 : D.getD k 0 < 0
    · rw [if_pos h0]
      have hkl : k < D.length := by rw [b.len]; exact hk
      have hkh : k ≠ h := by intro e; subst e; have := b.hD; omega
      have h1 := BI.new hpn hpN b (hl k (by simp)) h0
      rw [← hd] at h1
      have := BI.all hpn hpN l (D.set k d) (q ++ [k]) d (by rw [getD_set' hkl, if_neg (Ne.symm hkh)]; exact hd) h1 (fun x hx => hl x (List.mem_cons_of_mem _ hx))
      refine ⟨this.1, this.2.trans ?_⟩
      have h3 := negs_set hkl h0 (d := d) (by have := b.hD; omega)
      rw [List.length_append, List.length_singleton]
      omega
    · rw [if_neg h0]
      exact BI.all hpn hpN l D q d hd (b.old hk h0) (fun x hx => hl x (List.mem_cons_of_mem _ hx))

theorem BO.fin (hnN : ∀ i k, i < N → k ∈ next i → k < N) (hnp : ∀ i k, i < N → k < N → k ∈ next i → i ∈ prev k) (b : BO prev next goal N D []) : ∀ i, i < N → IsDist next goal i (D.getD i 0) := by
  have hall : ∀ (n i : Nat), i < N → toG next goal n i → 0 ≤ D.getD i 0 ∧ D.getD i 0 ≤ n := by
    intro n
    induction n with
    | zero =>
      intro i hi h
      rw [b.src i hi h]
      omega
    | succ n ih =>
      rintro i hi ⟨k, hk, h⟩
      have hkN := hnN i k hi hk
      have h1 := ih k hkN h
      have h2 := b.done k hkN h1.1 (by simp) i (hnp i k hi hkN hk)
      omega
  intro i hi
  by_cases h0 : 0 ≤ D.getD i 0
  · exact .inr ⟨h0, b.sound i hi h0, fun m hm h => by have := hall m i hi h; omega⟩
  · refine .inl ⟨by have := b.low i hi; omega, fun n h => h0 (hall n i hi h).1⟩

theorem bfs_dist (hpn : ∀ i k, i < N → k < N → i ∈ prev k → k ∈ next i) (hpN : ∀ i k, k < N → i ∈ prev k → i < N) (hnN : ∀ i k, i < N → k ∈ next i → k < N) (hnp : ∀ i k, i < N → k < N → k ∈ next i → i ∈ prev k) :
    ∀ (f : Nat) (D : List Int) (q : List Nat), BO prev next goal N D q → q.length + negs D ≤ f → ∀ i, i < N → IsDist next goal i ((bfs prev f D q).getD i 0) := by
  intro f
  induction f with
  | zero =>
    intro D q b hf
    have : q = [] := List.eq_nil_of_length_eq_zero (by omega)
    subst this
    exact b.fin hnN hnp
  | succ f ih =>
    intro D q b hf
    cases q with
    | nil => exact b.fin hnN hnp
    | cons h q =>
      rw [bfs]
      have := BI.all hpn hpN (prev h) D q _ rfl b.enter (fun _ h => h)
      exact ih _ _ this.1 (by rw [this.2]; rw [List.length_cons] at hf; omega)

/-! ### The same by sweeps -/
/-- after the sweeps up to d: the distances up to d are known -/
def SwO (next : Nat → List Nat) (goal : Nat → Prop) (N : Nat) (D : List Int) (d : Nat) : Prop :=
  D.length = N ∧ ∀ i, i < N → (D.getD i 0 = -1 ∧ ∀ m, m ≤ d → ¬ toG next goal m i) ∨ (0 ≤ D.getD i 0 ∧ D.getD i 0 ≤ d ∧ IsDist next goal i (D.getD i 0))
/-- within the sweep for d + 1: the vertices below j are done -/
def SwI (next : Nat → List Nat) (goal : Nat → Prop) (N : Nat) (D : List Int) (d j : Nat) (ch : Bool) : Prop :=
  D.length = N ∧ (∀ i, i < N → (D.getD i 0 = -1 ∧ (∀ m, m ≤ d → ¬ toG next goal m i) ∧ (i < j → ¬ toG next goal (d + 1) i)) ∨ (0 ≤ D.getD i 0 ∧ D.getD i 0 ≤ (d : Int) + 1 ∧ IsDist next goal i (D.getD i 0))) ∧
    (ch = false → ∀ i, i < N → D.getD i 0 ≤ d)
theorem SwO.enter {d : Nat} (h : SwO next goal N D d) : SwI next goal N D d 0 false := by
  refine ⟨h.1, fun i hi => ?_, fun _ i hi => ?_⟩
  · rcases h.2 i hi with h1 | h1
    · exact .inl ⟨h1.1, h1.2, fun h => by omega⟩
    · exact .inr ⟨h1.1, by omega, h1.2.2⟩
  · rcases h.2 i hi with h1 | h1 <;> omega
theorem SwI.leave {d : Nat} {ch : Bool} (h : SwI next goal N D d N ch) : SwO next goal N D (d + 1) := by
  refine ⟨h.1, fun i hi => ?_⟩
  rcases h.2.1 i hi with h1 | h1
  · refine .inl ⟨h1.1, fun m hm => ?_⟩
    by_cases e : m = d + 1
    · subst e; exact h1.2.2 hi
    · exact h1.2.1 m (by omega)
  · exact .inr ⟨h1.1, by omega, h1.2.2⟩
theorem SwI.stop (hnN : ∀ i k, i < N → k ∈ next i → k < N) {d : Nat} (h : SwI next goal N D d N false) : ∀ i, i < N → IsDist next goal i (D.getD i 0) := by
  have hno : ∀ i, i < N → toG next goal (d + 1) i → ∃ m, m ≤ d ∧ toG next goal m i := by
    intro i hi ht
    rcases h.2.1 i hi with h1 | h1
    · exact absurd ht (h1.2.2 hi)
    · have h2 := h.2.2 rfl i hi
      rcases h1.2.2 with h3 | h3
      · omega
      · exact ⟨_, by omega, h3.2.1⟩
  have hall : ∀ (n i : Nat), i < N → toG next goal n i → ∃ m, m ≤ d ∧ toG next goal m i := by
    intro n
    induction n with
    | zero => intro i _ h; exact ⟨0, Nat.zero_le _, h⟩
    | succ n ih =>
      rintro i hi ⟨k, hk, ht⟩
      obtain ⟨m, hm, h2⟩ := ih k (hnN i k hi hk) ht
      by_cases e : m = d
      · subst e
        exact hno i hi ⟨k, hk, h2⟩
      · exact ⟨m + 1, by omega, k, hk, h2⟩
  intro i hi
  rcases h.2.1 i hi with h1 | h1
  · refine .inl ⟨h1.1, fun n hn => ?_⟩
    obtain ⟨m, hm, h2⟩ := hall n i hi hn
    exact h1.2.1 m hm h2
  · exact h1.2.2
/-- vertex j is known already, or none of its next ones is at distance d -/
theorem SwI.skip {d j : Nat} {ch : Bool} (h : SwI next goal N D d j ch) (hs : ¬ D.getD j 0 < 0 ∨ ∀ k ∈ next j, D.getD k 0 ≠ d) (hnN : ∀ i k, i < N → k ∈ next i → k < N) : SwI next goal N D d (j + 1) ch := by
  refine ⟨h.1, fun i hi => ?_, h.2.2⟩
  rcases h.2.1 i hi with h1 | h1
  · refine .inl ⟨h1.1, h1.2.1, fun hij => ?_⟩
    by_cases e : i = j
    · subst e
      rcases hs with hs | hs
      · omega
      · rintro ⟨k, hk, ht⟩
        have hkN := hnN i k hi hk
        rcases h.2.1 k hkN with h2 | h2
        · exact h2.2.1 d (Nat.le_refl _) ht
        · rcases h2.2.2 with h3 | h3
          · omega
          · have h4 : ¬ d < (D.getD k 0).toNat := fun hlt => h3.2.2 d hlt ht
            have h5 := hs k hk
            refine h1.2.1 ((D.getD k 0).toNat + 1) (by omega) ⟨k, hk, h3.2.1⟩
    · exact h1.2.2 (by omega)
  · exact .inr h1
theorem SwI.put {d j k : Nat} {ch : Bool} (h : SwI next goal N D d j ch) (hj : j < N) (h0 : D.getD j 0 < 0) (hk : k ∈ next j) (hkd : D.getD k 0 = d) (hnN : ∀ i k, i < N → k ∈ next i → k < N) : SwI next goal N (D.set j ((d : Int) + 1)) d (j + 1) true := by
  have hjl : j < D.length := by rw [h.1]; exact hj
  have hkN := hnN j k hj hk
  refine ⟨by rw [List.length_set]; exact h.1, fun i hi => ?_, fun h => by cases h⟩
  by_cases e : i = j
  · subst e
    rw [getD_set' hjl, if_pos rfl]
    rcases h.2.1 i hi with h1 | h1
    · refine .inr ⟨by omega, by omega, .inr ⟨by omega, ?_, fun m hm => h1.2.1 m (by omega)⟩⟩
      rcases h.2.1 k hkN with h2 | h2
      · omega
      · rcases h2.2.2 with h3 | h3
        · omega
        · have h4 := h3.2.1
          rw [hkd] at h4
          rw [show ((d : Int) + 1).toNat = d + 1 by omega]
          exact ⟨k, hk, by simpa using h4⟩
    · omega
  · rw [getD_set' hjl, if_neg e]
    rcases h.2.1 i hi with h1 | h1
    · exact .inl ⟨h1.1, h1.2.1, fun hij => h1.2.2 (by omega)⟩
    · exact .inr h1
end

/-- the lists turned round -/
def turnL (N : Nat) (next : Nat → List Nat) (k : Nat) : List Nat := (List.range N).flatMap fun i => (next i).filterMap fun x => if x = k then some i else none
theorem mem_turnL {N : Nat} {next : Nat → List Nat} {i k : Nat} : i ∈ turnL N next k ↔ i < N ∧ k ∈ next i := by
  unfold turnL
  simp only [List.mem_flatMap, List.mem_range, List.mem_filterMap]
  constructor
  · rintro ⟨j, hj, x, hx, he⟩
    by_cases h : x = k
    · rw [if_pos h] at he
      injection he with he
      subst h he
      exact ⟨hj, hx⟩
    · rw [if_neg h] at he; cases he
  · rintro ⟨hi, hk⟩
    exact ⟨i, hi, k, hk, by simp⟩
end Go.Proofs.Ytajjolkpgfegfaa

/- Plain: breadth first search from some vertices. -/
namespace Go.Proofs.Ytajjolkpgfegfaa
set_option linter.unusedVariables false
set_option linter.unusedSimpArgs false

def srcD (N : Nat) (fs : List Nat) : List Int := fs.foldl (fun D i => D.set i 0) (List.replicate N (-1))
theorem srcD_len (N : Nat) (fs : List Nat) : (srcD N fs).length = N := by
  have h : ∀ (fs : List Nat) (D : List Int), (fs.foldl (fun D i => D.set i 0) D).length = D.length := by
    intro fs
    induction fs with
    | nil => intro D; rfl
    | cons x fs ih => intro D; rw [List.foldl_cons, ih, List.length_set]
  rw [srcD, h, List.length_replicate]
theorem srcD_at {N : Nat} {fs : List Nat} {i : Nat} (hi : i < N) : (srcD N fs).getD i 0 = if i ∈ fs then 0 else -1 := by
  have h : ∀ (fs : List Nat) (D : List Int), i < D.length → (fs.foldl (fun D i => D.set i 0) D).getD i 0 = if i ∈ fs then 0 else D.getD i 0 := by
    intro fs
    induction fs with
    | nil => intro D _; simp
    | cons x fs ih =>
      intro D hD
      rw [List.foldl_cons, ih _ (by rw [List.length_set]; exact hD)]
      by_cases h1 : i ∈ fs
      · simp [h1]
      · rw [if_neg h1]
        by_cases h2 : i = x
        · subst h2
          rw [getD_set' hD, if_pos rfl]; simp
        · have hx : (D.set x 0).getD i 0 = D.getD i 0 := by
            simp only [List.getD, List.getElem?_set]
            rw [if_neg (fun e => h2 e.symm)]
          rw [hx, if_neg (by simp [h1, h2])]
  rw [srcD, h fs _ (by simpa using hi)]
  simp [List.getD, List.getElem?_replicate, hi]
theorem srcD_snoc (N : Nat) (fs : List Nat) (x : Nat) : srcD N (fs ++ [x]) = (srcD N fs).set x 0 := by simp [srcD, List.foldl_append]
theorem srcD_out {N : Nat} {fs : List Nat} {i : Nat} (hi : ¬ i < N) : (srcD N fs).getD i 0 = 0 := by
  simp only [List.getD]
  rw [List.getElem?_eq_none (by rw [srcD_len]; omega)]
  rfl
theorem negs_le (D : List Int) : negs D ≤ D.length := List.countP_le_length
theorem srcD_bfsI {N : Nat} {fs : List Nat} (hfs : ∀ i ∈ fs, i < N) : BfsI N (fs.length + N) (fs.length + N) (srcD N fs) fs := by
  have hv : ∀ i, (srcD N fs).getD i 0 = 0 ∨ (srcD N fs).getD i 0 = -1 := by
    intro i
    by_cases hi : i < N
    · rw [srcD_at hi]
      split
      · exact .inl rfl
      · exact .inr rfl
    · exact .inl (srcD_out hi)
  refine ⟨srcD_len N fs, fun h hh => ⟨hfs h hh, ?_⟩, ?_, fun h => ?_, fun h => ?_, Nat.le_refl _⟩
  · rw [srcD_at (hfs h hh), if_pos hh]; omega
  · have := negs_le (srcD N fs)
    rw [srcD_len] at this
    omega
  · rcases hv h with h1 | h1 <;> rw [h1] <;> omega
  · rcases hv h with h1 | h1 <;> rw [h1] <;> omega
def spreadR (N : Nat) (next : Nat → List Nat) (fs : List Nat) : List Int := bfs next (fs.length + N) (srcD N fs) fs
theorem spreadR_len (N : Nat) (next : Nat → List Nat) (fs : List Nat) : (spreadR N next fs).length = N := by rw [spreadR, bfs_len, srcD_len]

/-- from the goals, the rows turned round: the least number of steps to a goal -/
theorem spread_dist {N : Nat} {next : Nat → List Nat} {fs : List Nat} (hfs : ∀ i ∈ fs, i < N) (hn : ∀ i k, i < N → k ∈ next i → k < N) (i : Nat) (hi : i < N) :
    IsDist next (fun i => i ∈ fs) i ((spreadR N (turnL N next) fs).getD i 0) := by
  refine bfs_dist (prev := turnL N next) (fun i k _ _ h => (mem_turnL.1 h).2) (fun i k _ h => (mem_turnL.1 h).1) hn (fun i k hi _ h => mem_turnL.2 ⟨hi, h⟩) _ _ _ ?_ (srcD_bfsI hfs).fuel i hi
  refine ⟨srcD_len N fs, fun i hi h0 => ?_, fun i hi hg => ?_, fun k hk h0 hq => ?_, fun h r hq i hi => ?_, ?_, (srcD_bfsI hfs).queue, fun i hi => (srcD_bfsI hfs).low i⟩
  · rw [srcD_at hi] at h0 ⊢
    by_cases h : i ∈ fs
    · rw [if_pos h]; exact h
    · rw [if_neg h] at h0; omega
  · rw [srcD_at hi, if_pos hg]
  · rw [srcD_at hk, if_neg hq] at h0; omega
  · have hm : h ∈ fs := by rw [hq]; simp
    have e1 := srcD_at (fs := fs) (hfs h hm)
    rw [if_pos hm] at e1
    rw [srcD_at hi, e1]
    split <;> omega
  · have : ∀ l : List Nat, (∀ x ∈ l, x ∈ fs) → l.Pairwise (fun a b => (srcD N fs).getD a 0 ≤ (srcD N fs).getD b 0) := by
      intro l
      induction l with
      | nil => intro _; simp
      | cons x l ih =>
        intro hl
        refine List.pairwise_cons.2 ⟨fun y hy => ?_, ih fun z hz => hl z (List.mem_cons_of_mem _ hz)⟩
        have h1 := hl x (by simp)
        have h2 := hl y (List.mem_cons_of_mem _ hy)
        rw [srcD_at (hfs x h1), srcD_at (hfs y h2), if_pos h1, if_pos h2]
        omega
    exact this fs (fun _ h => h)
theorem relax_mid (d : Int) (k : Nat) (l : List Nat) (D : List Int) (q : List Nat) (h : D.getD k 0 < 0) : relax d (k :: l) D q = relax d l (D.set k d) (q ++ [k]) := by rw [relax, if_pos h]
theorem relax_old (d : Int) (k : Nat) (l : List Nat) (D : List Int) (q : List Nat) (h : ¬ D.getD k 0 < 0) : relax d (k :: l) D q = relax d l D q := by rw [relax, if_neg h]
end Go.Proofs.Ytajjolkpgfegfaa

/- Plain: the rows of vertices behind each vertex, filled vertex by vertex; the rows turned round. -/
namespace Go.Proofs.Ytajjolkpgfegfaa
set_option linter.unusedVariables false
set_option linter.unusedSimpArgs false

/-- rows below i are whole, row i holds cur, the others are empty -/
def fillTo (N : Nat) (next : Nat → List Nat) (i : Nat) (cur : List Nat) : List (List Nat) := (List.range N).map fun m => if m < i then next m else if m = i then cur else []
theorem fill_at {N i m : Nat} {next : Nat → List Nat} {cur : List Nat} (h : m < N) : (fillTo N next i cur)[m]? = some (if m < i then next m else if m = i then cur else []) := by simp [fillTo, h]
theorem fill_cur {N i : Nat} {next : Nat → List Nat} {cur : List Nat} (h : i < N) : (fillTo N next i cur)[i]? = some cur := by rw [fill_at h, if_neg (by omega), if_pos rfl]
theorem fill_len (N i : Nat) (next : Nat → List Nat) (cur : List Nat) : (fillTo N next i cur).length = N := by simp [fillTo]
theorem fill_zero (N : Nat) (next : Nat → List Nat) : fillTo N next 0 [] = List.replicate N [] := by
  apply List.ext_getElem?
  intro x
  by_cases h : x < N
  · rw [fill_at h, List.getElem?_replicate, if_pos h]; simp
  · rw [List.getElem?_eq_none (by rw [fill_len]; omega), List.getElem?_eq_none (by rw [List.length_replicate]; omega)]
theorem fill_push {N i : Nat} {next : Nat → List Nat} {cur : List Nat} (v : List Nat) (h : i < N) : (fillTo N next i cur).set i v = fillTo N next i v := by
  apply List.ext_getElem?
  intro x
  rw [List.getElem?_set, fill_len]
  by_cases hx : x < N
  · by_cases e : i = x
    · subst e
      rw [if_pos rfl, if_pos h, fill_cur h]
    · rw [if_neg e, fill_at hx, fill_at hx]
      have : ¬ x = i := fun h => e h.symm
      simp [this]
  · rw [List.getElem?_eq_none (l := fillTo N next i v) (by rw [fill_len]; omega)]
    rw [if_neg (by omega), List.getElem?_eq_none (by rw [fill_len]; omega)]
theorem fill_next {N i : Nat} {next : Nat → List Nat} : fillTo N next i (next i) = fillTo N next (i + 1) [] := by
  unfold fillTo
  apply List.map_congr_left
  intro m _
  by_cases h1 : m < i
  · rw [if_pos h1, if_pos (by omega)]
  · by_cases h2 : m = i
    · subst h2
      rw [if_neg h1, if_pos rfl, if_pos (by omega)]
    · rw [if_neg h1, if_neg h2, if_neg (by omega)]
      split <;> rfl
theorem fill_all (N : Nat) (next : Nat → List Nat) : fillTo N next N [] = (List.range N).map next := by
  unfold fillTo
  apply List.map_congr_left
  intro m hm
  rw [if_pos (List.mem_range.1 hm)]
theorem nextI_at {g : Gr} {a : Au} {x s : Nat} (hs : s < a.accept.length) : nextI g a (x * a.accept.length + s) = nextV g a x s := by
  unfold nextI
  rw [Nat.add_comm, Nat.add_mul_div_right _ _ (by omega), Nat.div_eq_of_lt hs, Nat.add_mul_mod_self_right, Nat.mod_eq_of_lt hs, Nat.zero_add]
theorem vert_lt {n m x s : Nat} (hx : x < m) (hs : s < n) : x * n + s < m * n := by
  have := Nat.mul_le_mul_right n (show x + 1 ≤ m by omega)
  rw [Nat.succ_mul] at this
  omega

/-- the rows turned round, by the first i rows and j entries of row i -/
def turnTo (N : Nat) (next : Nat → List Nat) (i : Nat) (cur : List Nat) : List (List Nat) := (List.range N).map fun k => ((List.range i).flatMap fun m => (next m).filterMap fun x => if x = k then some m else none) ++ cur.filterMap fun x => if x = k then some i else none
theorem turn_at {N i k : Nat} {next : Nat → List Nat} {cur : List Nat} (h : k < N) : (turnTo N next i cur)[k]? = some (((List.range i).flatMap fun m => (next m).filterMap fun x => if x = k then some m else none) ++ cur.filterMap fun x => if x = k then some i else none) := by simp [turnTo, h]
theorem turn_len (N i : Nat) (next : Nat → List Nat) (cur : List Nat) : (turnTo N next i cur).length = N := by simp [turnTo]
theorem turn_zero (N : Nat) (next : Nat → List Nat) : turnTo N next 0 [] = List.replicate N [] := by
  apply List.ext_getElem?
  intro x
  by_cases h : x < N
  · rw [turn_at h, List.getElem?_replicate, if_pos h]; simp
  · rw [List.getElem?_eq_none (by rw [turn_len]; omega), List.getElem?_eq_none (by rw [List.length_replicate]; omega)]
theorem turn_push {N i k : Nat} {next : Nat → List Nat} {cur row : List Nat} (h : k < N) (hr : (turnTo N next i cur)[k]? = some row) : (turnTo N next i cur).set k (row ++ [i]) = turnTo N next i (cur ++ [k]) := by
  apply List.ext_getElem?
  intro x
  rw [List.getElem?_set, turn_len]
  by_cases hx : x < N
  · by_cases e : k = x
    · subst e
      rw [turn_at h] at hr
      injection hr with hr
      rw [if_pos rfl, if_pos h, turn_at h, ← hr, List.filterMap_append]
      simp
    · rw [if_neg e, turn_at hx, turn_at hx, List.filterMap_append]
      simp [e]
  · rw [List.getElem?_eq_none (l := turnTo N next i (cur ++ [k])) (by rw [turn_len]; omega)]
    rw [if_neg (by omega), List.getElem?_eq_none (by rw [turn_len]; omega)]
theorem turn_next {N i : Nat} {next : Nat → List Nat} : turnTo N next i (next i) = turnTo N next (i + 1) [] := by
  unfold turnTo
  apply List.map_congr_left
  intro k _
  rw [List.range_succ, List.flatMap_append]
  simp
theorem turn_all (N : Nat) (next : Nat → List Nat) : turnTo N next N [] = (List.range N).map (turnL N next) := by
  unfold turnTo turnL
  apply List.map_congr_left
  intro k _
  simp
end Go.Proofs.Ytajjolkpgfegfaa

/- Plain: the vertices of a node that accept. -/
namespace Go.Proofs.Ytajjolkpgfegfaa
set_option linter.unusedVariables false
set_option linter.unusedSimpArgs false
def goalsTo (g : Gr) (a : Au) (y i : Nat) : List Nat := ((List.range i).filter (accC a (valAt g y))).map fun s => y * a.accept.length + s
def goalsL (g : Gr) (a : Au) (y : Nat) : List Nat := goalsTo g a y a.accept.length
theorem goalsTo_yes {g : Gr} {a : Au} {y i : Nat} (h : accC a (valAt g y) i = true) : goalsTo g a y (i + 1) = goalsTo g a y i ++ [y * a.accept.length + i] := by
  unfold goalsTo
  rw [List.range_succ, List.filter_append, List.map_append]
  simp [h]
theorem goalsTo_no {g : Gr} {a : Au} {y i : Nat} (h : accC a (valAt g y) i = false) : goalsTo g a y (i + 1) = goalsTo g a y i := by
  unfold goalsTo
  rw [List.range_succ, List.filter_append, List.map_append]
  simp [h]
theorem goalsTo_len (g : Gr) (a : Au) (y i : Nat) : (goalsTo g a y i).length ≤ i := by
  unfold goalsTo
  rw [List.length_map]
  have := List.length_filter_le (accC a (valAt g y)) (List.range i)
  rw [List.length_range] at this
  exact this
theorem mem_goalsL {g : Gr} {a : Au} {y v : Nat} : v ∈ goalsL g a y ↔ ∃ s, s < a.accept.length ∧ accC a (valAt g y) s = true ∧ v = y * a.accept.length + s := by
  unfold goalsL goalsTo
  simp only [List.mem_map, List.mem_filter, List.mem_range]
  constructor
  · rintro ⟨s, ⟨h1, h2⟩, rfl⟩; exact ⟨s, h1, h2, rfl⟩
  · rintro ⟨s, h1, h2, rfl⟩; exact ⟨s, ⟨h1, h2⟩, rfl⟩
end Go.Proofs.Ytajjolkpgfegfaa

/- Plain: the distances to a node, and the shortest length. -/
namespace Go.Proofs.Ytajjolkpgfegfaa
set_option linter.unusedVariables false
set_option linter.unusedSimpArgs false
def distTo (g : Gr) (a : Au) (y : Int) : List Int :=
  if (wi y 0 ((g.vals.length : Int) - 1) && (grOk g && auOk a)) = true then spreadR (g.vals.length * a.accept.length) (turnL (g.vals.length * a.accept.length) (nextI g a)) (goalsL g a y.toNat) else []
def shortLen (g : Gr) (a : Au) (x y : Int) : Int :=
  if (wi x 0 ((g.vals.length : Int) - 1) && (wi y 0 ((g.vals.length : Int) - 1) && (grOk g && auOk a))) = true then (distTo g a y).getD (x.toNat * a.accept.length + a.start.toNat) 0 else -1
theorem distTo_len {g : Gr} {a : Au} {y : Int} (h : (wi y 0 ((g.vals.length : Int) - 1) && (grOk g && auOk a)) = true) : (distTo g a y).length = g.vals.length * a.accept.length := by rw [distTo, if_pos h, spreadR_len]
end Go.Proofs.Ytajjolkpgfegfaa

/- Plain: the distances to a node by sweeps, as the reference finds them. -/
namespace Go.Proofs.Ytajjolkpgfegfaa
set_option linter.unusedVariables false
set_option linter.unusedSimpArgs false
/-- the first list -/
def ini (g : Gr) (a : Au) (y z : Nat) : Int := if (z / a.accept.length == y && accC a (valAt g y) (z % a.accept.length)) = true then 0 else -1
def iniL (g : Gr) (a : Au) (y k : Nat) : List Int := (List.range k).map (ini g a y)
theorem iniL_len (g : Gr) (a : Au) (y k : Nat) : (iniL g a y k).length = k := by simp [iniL]
theorem iniL_snoc (g : Gr) (a : Au) (y k : Nat) : iniL g a y (k + 1) = iniL g a y k ++ [ini g a y k] := by simp [iniL, List.range_succ]
theorem iniL_at {g : Gr} {a : Au} {y k i : Nat} (h : i < k) : (iniL g a y k).getD i 0 = ini g a y i := by simp [iniL, List.getD, h]
theorem ini_goal {g : Gr} {a : Au} {y z : Nat} (hn : 0 < a.accept.length) : (z / a.accept.length == y && accC a (valAt g y) (z % a.accept.length)) = true ↔ z ∈ goalsL g a y := by
  rw [mem_goalsL, Bool.and_eq_true, beq_iff_eq]
  constructor
  · rintro ⟨rfl, h⟩
    exact ⟨z % a.accept.length, Nat.mod_lt _ hn, h, by rw [Nat.mul_comm]; exact (Nat.div_add_mod z _).symm⟩
  · rintro ⟨s, hs, hc, rfl⟩
    have h1 : (y * a.accept.length + s) / a.accept.length = y := by rw [Nat.mul_comm, Nat.mul_add_div hn, Nat.div_eq_of_lt hs]; rfl
    have h2 : (y * a.accept.length + s) % a.accept.length = s := by rw [Nat.mul_comm, Nat.mul_add_mod, Nat.mod_eq_of_lt hs]
    rw [h1, h2]
    exact ⟨rfl, hc⟩
theorem ini_SwO {g : Gr} {a : Au} {y N : Nat} (hn : 0 < a.accept.length) (next : Nat → List Nat) : SwO next (fun i => i ∈ goalsL g a y) N (iniL g a y N) 0 := by
  refine ⟨iniL_len .., fun i hi => ?_⟩
  rw [iniL_at hi, ini]
  by_cases h : (i / a.accept.length == y && accC a (valAt g y) (i % a.accept.length)) = true
  · rw [if_pos h]
    exact .inr ⟨Int.le_refl _, Int.le_refl _, .inr ⟨Int.le_refl _, (ini_goal hn).1 h, fun m hm => absurd hm (by simp)⟩⟩
  · rw [if_neg h]
    refine .inl ⟨rfl, fun m hm => ?_⟩
    obtain rfl : m = 0 := by omega
    exact fun hg => h ((ini_goal hn).2 hg)
/-- what the sweeps find is what the search found -/
theorem sweep_eq {g : Gr} {a : Au} {y : Nat} (hg : grOk g = true) (ha : auOk a = true) (hy : y < g.vals.length) {D : List Int} (hl : D.length = g.vals.length * a.accept.length)
    (h : ∀ i, i < g.vals.length * a.accept.length → IsDist (nextI g a) (fun i => i ∈ goalsL g a y) i (D.getD i 0)) : D = distTo g a (y : Int) := by
  have hd : (wi (y : Int) 0 ((g.vals.length : Int) - 1) && (grOk g && auOk a)) = true := by
    simp only [Bool.and_eq_true]
    exact ⟨by rw [wi_iff]; omega, hg, ha⟩
  have hN : ∀ i k, i < g.vals.length * a.accept.length → k ∈ nextI g a i → k < g.vals.length * a.accept.length := fun i k _ hk => nextV_lt (grOk_iff.1 hg) ha hk
  have hfs : ∀ i ∈ goalsL g a y, i < g.vals.length * a.accept.length := fun i hi => by
    obtain ⟨s, hs, _, rfl⟩ := mem_goalsL.1 hi
    calc y * a.accept.length + s < y * a.accept.length + a.accept.length := by omega
      _ = (y + 1) * a.accept.length := by rw [Nat.add_mul, Nat.one_mul]
      _ ≤ _ := Nat.mul_le_mul_right _ hy
  rw [distTo, if_pos hd, Int.toNat_natCast]
  refine List.ext_getElem (by rw [hl, spreadR_len]) fun i h1 h2 => ?_
  have hi : i < g.vals.length * a.accept.length := by omega
  have e := (h i hi).uniq (spread_dist hfs hN i hi)
  simpa [List.getD, h1, h2] using e
/-! ### The sweeps' rounds -/
section
variable {next : Nat → List Nat} {goal : Nat → Prop} {N : Nat} {D D0 : List Int} {e i k : Nat} {ch ch0 : Bool}
/-- within a sweep, at vertex i, with k of its next ones looked at -/
def KI (next : Nat → List Nat) (D0 : List Int) (ch0 : Bool) (e i k : Nat) (D : List Int) (ch : Bool) : Prop :=
  (D = D0 ∧ ch = ch0 ∧ ∀ v ∈ (next i).take k, D0.getD v 0 ≠ (e : Int)) ∨ (D = D0.set i ((e : Int) + 1) ∧ ch = true ∧ D0.getD i 0 < 0 ∧ ∃ v ∈ next i, D0.getD v 0 = (e : Int))
def CI (e N : Nat) (D : List Int) (ch : Bool) : Prop := e + negs D ≤ N ∧ (ch = true → e + negs D + 1 ≤ N)
/-- after sweeps -/
def SW (next : Nat → List Nat) (goal : Nat → Prop) (N e : Nat) (D : List Int) (ch : Bool) : Prop :=
  D.length = N ∧ (ch = true → SwO next goal N D e ∧ e + negs D ≤ N) ∧ (ch = false → ∀ i, i < N → IsDist next goal i (D.getD i 0))
theorem KI.start : KI next D0 ch0 e i 0 D0 ch0 := .inl ⟨rfl, rfl, by simp⟩
theorem KI.len (h : KI next D0 ch0 e i k D ch) : D.length = D0.length := by
  rcases h with ⟨rfl, _⟩ | ⟨rfl, _⟩ <;> simp
theorem KI.neg (h : KI next D0 ch0 e i k D ch) (hi : i < D0.length) (hn : D.getD i 0 < 0) : D = D0 ∧ ch = ch0 ∧ ∀ v ∈ (next i).take k, D0.getD v 0 ≠ (e : Int) := by
  rcases h with h | ⟨rfl, _⟩
  · exact h
  · rw [getD_set' hi, if_pos rfl] at hn
    omega
theorem KI.miss (h : KI next D0 ch0 e i k D ch) (hi : i < D0.length) (hn : D.getD i 0 < 0) {v : Nat} (hv : (next i)[k]? = some v) (hd : ¬ D.getD v 0 = (e : Int)) : KI next D0 ch0 e i (k + 1) D ch := by
  obtain ⟨rfl, rfl, h3⟩ := h.neg hi hn
  refine .inl ⟨rfl, rfl, fun x hx => ?_⟩
  rw [take_snoc hv, List.mem_append, List.mem_singleton] at hx
  rcases hx with hx | rfl
  · exact h3 x hx
  · exact hd
theorem KI.hit (h : KI next D0 ch0 e i k D ch) (hi : i < D0.length) (hn : D.getD i 0 < 0) {v : Nat} (hv : (next i)[k]? = some v) (hd : D.getD v 0 = (e : Int)) : KI next D0 ch0 e i (k + 1) (D.set i ((e : Int) + 1)) true := by
  obtain ⟨rfl, rfl, h3⟩ := h.neg hi hn
  exact .inr ⟨rfl, rfl, hn, v, List.mem_of_getElem? hv, hd⟩
theorem KI.fin (h : KI next D0 ch0 e i k D ch) (hs : SwI next goal N D0 e i ch0) (hi : i < N) (hk : (next i).length ≤ k ∨ ¬ D.getD i 0 < 0) (hnN : ∀ i k, i < N → k ∈ next i → k < N) : SwI next goal N D e (i + 1) ch := by
  rcases h with ⟨rfl, rfl, h3⟩ | ⟨rfl, rfl, h3, v, hv, hd⟩
  · refine hs.skip ?_ hnN
    rcases hk with hk | hk
    · exact .inr fun v hv => h3 v (by rw [List.take_of_length_le hk]; exact hv)
    · exact .inl hk
  · exact hs.put hi h3 hv hd hnN
theorem KI.cnt (h : KI next D0 ch0 e i k D ch) (hc : CI e N D0 ch0) (hi : i < D0.length) : CI e N D ch := by
  rcases h with ⟨rfl, rfl, _⟩ | ⟨rfl, rfl, h3, _⟩
  · exact hc
  · have h1 := negs_set (k := i) (d := (e : Int) + 1) hi h3 (by omega)
    have h2 := hc.1
    exact ⟨by omega, fun _ => by omega⟩
theorem SW.enter (h : SW next goal N e D true) : SwI next goal N D e 0 false ∧ CI e N D false := ⟨(h.2.1 rfl).1.enter, (h.2.1 rfl).2, by simp⟩
theorem SW.leave (h : SwI next goal N D e N ch) (hc : CI e N D ch) (hnN : ∀ i k, i < N → k ∈ next i → k < N) : SW next goal N (e + 1) D ch := by
  refine ⟨h.1, fun ht => ⟨h.leave, ?_⟩, fun hf => ?_⟩
  · have := hc.2 ht; omega
  · subst hf; exact h.stop hnN
theorem SW.ini (h : SwO next goal N D 0) : SW next goal N 0 D true := by
  refine ⟨h.1, fun _ => ⟨h, ?_⟩, by simp⟩
  have := List.countP_le_length (p := fun x : Int => decide (x < 0)) (l := D)
  rw [h.1] at this
  simpa [negs] using this
theorem CI.le (h : CI e N D ch) : e ≤ N := by have := h.1; omega
end
end Go.Proofs.Ytajjolkpgfegfaa

/- Plain: the steps of the product from a vertex, as the reference lists them. -/
namespace Go.Proofs.Ytajjolkpgfegfaa
set_option linter.unusedVariables false
set_option linter.unusedSimpArgs false
abbrev PS := St × Int × Int
def psA (g : Gr) (a : Au) (x s : Nat) (y : Arc) : List PS := (mem 12 (aft a (bit s) (valAt g x) y.2.1.toNat)).map fun (q : Nat) => (y.1, y.2.2, (q : Int))
def prodSteps (g : Gr) (a : Au) (x s : Nat) : List PS := (arcsOf g (x : Int)).flatMap (psA g a x s)
def psV (n : Nat) (p : PS) : Nat := p.2.1.toNat * n + p.2.2.toNat
theorem psV_next (g : Gr) (a : Au) (x s : Nat) : (prodSteps g a x s).map (psV a.accept.length) = nextV g a x s := by
  unfold prodSteps nextV
  rw [List.map_flatMap]
  congr 1
  funext y
  unfold psA nextA
  rw [List.map_map]
  apply List.map_congr_left
  intro q _
  simp [psV]
theorem psA_len (g : Gr) (a : Au) (x s : Nat) (y : Arc) : (psA g a x s y).length ≤ 12 := by rw [psA, List.length_map]; exact mem_len _ _
theorem prodSteps_len {g : Gr} (hg : GrOk g) (a : Au) (x s : Nat) : (prodSteps g a x s).length ≤ 288 := by
  have h2 := flat_len (psA_len g a x s) (arcsOf g (x : Int))
  have h3 := arcs_len hg (x : Int)
  unfold prodSteps
  omega
theorem prodSteps_range {g : Gr} {a : Au} (hg : GrOk g) (ha : auOk a = true) {x s : Nat} {p : PS} (h : p ∈ prodSteps g a x s) : (0 ≤ p.2.1 ∧ p.2.1 ≤ (g.vals.length : Int) - 1) ∧ 0 ≤ p.2.2 ∧ p.2.2 < (a.accept.length : Int) := by
  obtain ⟨y, hy, hp⟩ := List.mem_flatMap.1 h
  obtain ⟨q, hq, rfl⟩ := List.mem_map.1 hp
  have h1 := (arc_range hg hy).2
  have h2 := aft_lt ha (bit s) (valAt g x) y.2.1.toNat
  rw [mem12 ha h2, mem_mem] at hq
  exact ⟨h1, by simp only; omega, by simp only; omega⟩
def foldTo (a : Au) (l set q : Nat) : Nat := (mem q set).foldl (aft1 a l) 0
theorem foldTo_no {a : Au} {l set q : Nat} (h : set.testBit q = false) : foldTo a l set (q + 1) = foldTo a l set q := by rw [foldTo, mem_no h]; rfl
theorem foldTo_yes {a : Au} {l set q : Nat} (h : set.testBit q = true) : foldTo a l set (q + 1) = aft1 a l (foldTo a l set q) q := by rw [foldTo, mem_yes h, List.foldl_append]; rfl
theorem foldTo_lt {a : Au} (h : auOk a = true) (l set q : Nat) : foldTo a l set q < 2 ^ a.accept.length := foldl_inv (P := fun m => m < 2 ^ a.accept.length) (fun m x hm => aft1_lt h l m x hm) _ _ (Nat.two_pow_pos _)
theorem foldTo_all {a : Au} (h : auOk a = true) {v s l : Nat} (hs : s < a.accept.length) : foldTo a l (cls a v s) a.accept.length = aft a (bit s) v l := by
  rw [aft_one v l (show s < 12 by have := (auOk_iff.1 h).1.2; omega), mem12 h (cls_lt h v s hs)]; rfl
end Go.Proofs.Ytajjolkpgfegfaa

/- The reference's functions on automata. -/
namespace Go.Proofs.Ytajjolkpgfegfaa
set_option linter.unusedVariables false
set_option linter.unusedSimpArgs false
open Go.ChangeShapes Go.WideShapes Go.ChangeAt Go.RowKit
attribute [local go_sem] ext_cell ext_frozen ext_lt ext_lt1 ext_lt2 ext_lt3 ltn2 ltn3 ltn13 lts1 lts2 lts3

theorem l1In_any (n a b : Int) (w : World) : Calls Try.prog 84 #[.int .i64 n, .int .i64 a, .int .i64 b] w fun e w' => e = .returned (.bool (wi n a b)) ∧ w' = w := by
  unfold wi
  by_cases h1 : a ≤ n
  · have e1 : decide (a ≤ n) = true := by simpa using h1
    by_cases h2 : n ≤ b
    · go_enter Try.func84, Try.ntmps84
      go_wp2
      go_ret
      exact ⟨by simp [h1, h2], rfl⟩
    · go_enter Try.func84, Try.ntmps84
      go_wp2
      go_ret
      exact ⟨by simp [h1]; try omega, rfl⟩
  · have e1 : decide (a ≤ n) = false := by simpa using h1
    go_enter Try.func84, Try.ntmps84
    go_wp2
    go_ret
    exact ⟨by simp [h1]; try omega, rfl⟩

def auFits (a : Au) : Bool := wi a.start 0 ((a.accept.length : Int) - 1) && (a.next.length == a.accept.length) && a.next.all (rowOk a.accept.length)
theorem auFits_ok (a : Au) : (decide (a.accept.length ≤ 12) && auFits a) = auOk a := by
  rw [Bool.eq_iff_iff]
  simp only [auFits, auOk, Bool.and_eq_true, decide_eq_true_eq, wi_iff, beq_iff_eq]
  constructor
  · rintro ⟨h1, ⟨h2, h3⟩, h4⟩
    exact ⟨⟨⟨by omega, h2⟩, h3⟩, h4⟩
  · rintro ⟨⟨⟨h1, h2⟩, h3⟩, h4⟩
    exact ⟨by omega, ⟨h2, h3⟩, h4⟩

set_option maxHeartbeats 1000000 in
theorem l11Fits_any (v : Value) (a : Au) (w : World) (hv : AuV 0 w.heap.size w v a) :
    Calls Try.prog 126 #[v] w fun e w' => e = .returned (.bool (auFits a)) ∧ Below w.heap.size w w' := by
  obtain ⟨ac, nx, rfl, ⟨A1, c1, rfl, hl1, hm1, -⟩, us, ⟨A2, c2, rfl, hl2, hm2, hx2⟩, hul, hrows⟩ := hv
  rw [hul] at hl2 ⊢
  have HU := Lib.hid hul
  clear hul
  unfold maxLen at hm1 hm2
  have hb0 : Below w.heap.size w (w.alloc (.cells #[.int .i64 a.start, .slice A1 a.accept.length c1, .slice A2 a.next.length c2] 37)) := (Below.refl _ _).alloc (Nat.le_refl _) _
  have HW := Lib.hid l1In_any
  by_cases g2 : wi a.start 0 ((a.accept.length : Int) - 1) = true
  · by_cases g3 : a.next.length = a.accept.length
    · have HG3 := Lib.hid g3
      have g3' : ((a.next.length : Int) != (a.accept.length : Int)) = false := by simp; omega
      have hr : auFits a = a.next.all (rowOk a.accept.length) := by simp [auFits, g2, g3]
      have HR := Lib.hid hr
      clear hr g3
      obtain ⟨hn1, hn2⟩ := wi_iff.1 g2
      go_enter Try.func126, Try.ntmps126
      go_wp2_with (go_at_call 84; refine (HW.out _ _ _ _).mono ?_; rintro e w' ⟨rfl, rfl⟩)
      go_loop [4, 5] (fun ii jj => ∃ i : Nat, i ≤ a.accept.length ∧ ii = .int .i64 i ∧ (a.next.take i).all (rowOk a.accept.length) = true) (fun ii _ => a.accept.length - (intOf ii).toNat)
      case atStart => exact ⟨0, Nat.zero_le _, rfl, rfl⟩
      case round =>
        obtain ⟨i, hi, rfl, hall⟩ := hrel
        have HA := Lib.hid hall
        clear hall
        by_cases hlt : i < a.accept.length
        · have hlt' : i < a.next.length := by have := HG3.out; omega
          obtain ⟨u, hu⟩ : ∃ u, us[i]? = some u := ⟨_, List.getElem?_eq_getElem (by have := HU.out; omega)⟩
          obtain ⟨b, o, rfl, -, hb1, hc⟩ := hx2 i u hu
          have hxi : a.next[i]? = some a.next[i] := List.getElem?_eq_getElem hlt'
          have hvi := hrows i u _ hu hxi
          generalize a.next[i] = row at hvi hxi
          have c0 := hc 0 _ rfl
          simp only [Nat.mul_one, Nat.add_zero] at c0
          obtain ⟨A3, c3, rfl, hl3, hm3, hx3⟩ := hvi
          unfold maxLen at hm3
          have HX := Lib.hid hxi
          clear hc hx2 hu hxi hrows
          by_cases g9 : row.length = 9
          · have g9' : ((row.length : Int) != 9) = false := by simp; omega
            have HG9 := Lib.hid g9
            have hl9 : 9 ≤ row.length := by omega
            clear g9
            go_wp2_with fail
            go_loop [5] (fun jj => ∃ j : Nat, j ≤ 9 ∧ jj = .int .i64 j ∧ (row.take j).all (fun t => wi t (-1) ((a.accept.length : Int) - 1)) = true) (fun jj => 9 - (intOf jj).toNat)
            case atStart => exact ⟨0, Nat.zero_le _, rfl, rfl⟩
            case round =>
              obtain ⟨j, hj, rfl, hall2⟩ := hrel
              have HB := Lib.hid hall2
              clear hall2
              by_cases hlt2 : j < 9
              · have hlt3 : j < row.length := by omega
                have hxj : row[j]? = some row[j] := List.getElem?_eq_getElem hlt3
                obtain ⟨b2, o2, rfl, -, hb2, hc2⟩ := hx3 j _ hxj
                generalize row[j] = t at hc2 hxj
                have d0 := hc2 0 _ rfl
                simp only [Nat.mul_one, Nat.add_zero] at d0
                have HXJ := Lib.hid hxj
                clear hc2 hx3 hxj
                by_cases g4 : wi t (-1) ((a.accept.length : Int) - 1) = true
                · go_wp2_with (go_at_call 84; refine (HW.out _ _ _ _).mono ?_; rintro e w' ⟨rfl, rfl⟩)
                  go_round
                  case rel => exact ⟨j + 1, by omega, by go_num, all_take_succ HXJ.out HB.out g4⟩
                  case measure => simp [intOf]; omega
                · simp only [Bool.not_eq_true] at g4
                  have hfin : auFits a = false := by
                    rw [HR.out]
                    refine all_false_of HX.out ?_
                    rw [rowOk, all_false_of HXJ.out g4]
                    rfl
                  have HF := Lib.hid hfin
                  clear hfin
                  go_wp2_with (go_at_call 84; refine (HW.out _ _ _ _).mono ?_; rintro e w' ⟨rfl, rfl⟩)
                  go_ret
                  exact ⟨by rw [HF.out]; rfl, hb0⟩
              · obtain rfl : j = 9 := by omega
                have hok : rowOk a.accept.length row = true := by
                  have h3 := HB.out
                  rw [show 9 = row.length from HG9.out.symm, List.take_length] at h3
                  rw [rowOk, h3, HG9.out]
                  rfl
                have HO := Lib.hid hok
                clear hok hx3
                go_wp2_with fail
                go_round
                case rel => exact ⟨i + 1, by omega, by go_num, all_take_succ HX.out HA.out HO.out⟩
                case measure => simp [intOf]; omega
          · have g9' : ((row.length : Int) != 9) = true := by simp; omega
            have hfin : auFits a = false := by
              rw [HR.out]
              refine all_false_of HX.out ?_
              rw [rowOk]
              simp [g9]
            have HF := Lib.hid hfin
            clear hfin g9
            go_wp2_with fail
            go_ret
            exact ⟨by rw [HF.out]; rfl, hb0⟩
        · obtain rfl : i = a.accept.length := by omega
          have hfin : auFits a = true := by rw [HR.out]; have := HA.out; rw [← HG3.out, List.take_length] at this; rw [HG3.out] at this; exact this
          have HF := Lib.hid hfin
          clear hfin hx2 hrows
          go_wp2_with fail
          go_ret
          exact ⟨by rw [HF.out]; rfl, hb0⟩
    · have g3' : ((a.next.length : Int) != (a.accept.length : Int)) = true := by simp; omega
      have hr : auFits a = false := by simp [auFits, g3]
      have HR := Lib.hid hr
      clear hr g3
      go_enter Try.func126, Try.ntmps126
      go_wp2_with (go_at_call 84; refine (HW.out _ _ _ _).mono ?_; rintro e w' ⟨rfl, rfl⟩)
      go_ret
      exact ⟨by rw [HR.out]; rfl, hb0⟩
  · simp only [Bool.not_eq_true] at g2
    have hr : auFits a = false := by simp [auFits, g2]
    have HR := Lib.hid hr
    clear hr
    go_enter Try.func126, Try.ntmps126
    go_wp2_with (go_at_call 84; refine (HW.out _ _ _ _).mono ?_; rintro e w' ⟨rfl, rfl⟩)
    go_ret
    exact ⟨by rw [HR.out]; rfl, hb0⟩

theorem specValidAutomaton (v : Value) (a : Au) (w : World) (hv : AuV 0 w.heap.size w v a) :
    Calls Try.prog 92 #[v] w fun e w' => e = .returned (.bool (auOk a)) ∧ Below w.heap.size w w' := by
  have hv0 := hv
  obtain ⟨ac, nx, rfl, ⟨A1, c1, rfl, hl1, hm1, -⟩, -⟩ := hv
  unfold maxLen at hm1
  have hb0 : Below w.heap.size w (w.alloc (.cells #[.int .i64 a.start, .slice A1 a.accept.length c1, nx] 37)) := (Below.refl _ _).alloc (Nat.le_refl _) _
  have hok := auFits_ok a
  by_cases g : a.accept.length ≤ 12
  · have e1 : decide ((a.accept.length : Int) ≤ 12) = true := by simp; omega
    rw [decide_eq_true g, Bool.true_and] at hok
    have HO := Lib.hid hok
    clear hok
    go_enter Try.func92, Try.ntmps92
    go_wp2_with fail
    refine (l11Fits_any _ a _ (hv0.keep hb0)).mono ?_
    rintro e w1 ⟨rfl, hb1⟩
    go_wp2_with fail
    go_ret
    exact ⟨by rw [← HO.out]; rfl, below_trans hb0 hb1⟩
  · have e1 : decide ((a.accept.length : Int) ≤ 12) = false := by simp; omega
    rw [decide_eq_false g, Bool.false_and] at hok
    have HO := Lib.hid hok
    clear hok
    go_enter Try.func92, Try.ntmps92
    go_wp2_with fail
    go_ret
    exact ⟨by rw [← HO.out]; rfl, hb0⟩

end Go.Proofs.Ytajjolkpgfegfaa

/- The reference's functions on graphs: validity, edges, steps. -/
namespace Go.Proofs.Ytajjolkpgfegfaa
set_option linter.unusedVariables false
set_option linter.unusedSimpArgs false
open Go.ChangeShapes Go.WideShapes Go.ChangeAt Go.RowKit
attribute [local go_sem] ext_cell ext_frozen ext_lt ext_lt1 ext_lt2 ext_lt3 ltn2 ltn3 ltn13 lts1 lts2 lts3

set_option maxHeartbeats 1000000 in
theorem l3Edge_any (A : Option Addr) (n cc : Nat) (es : Value) (e : Ed) (w : World) (hn : n ≤ 9223372036854775807) :
    Calls Try.prog 136 #[.agg #[.slice A n cc, es], .agg #[.int .i64 e.1, .int .i64 e.2.1, .int .i64 e.2.2.1, .int .i64 e.2.2.2]] w fun en w' => en = .returned (.bool (edOk n e)) ∧ Below w.heap.size w w' := by
  obtain ⟨a, b, c, d⟩ := e
  have HW := Lib.hid l1In_any
  unfold edOk
  simp only
  have hb0 : Below w.heap.size w ((w.alloc (.cells #[.slice A n cc, es] 35)).alloc (.cells #[.int .i64 a, .int .i64 b, .int .i64 c, .int .i64 d] 116)) := ((Below.refl _ _).alloc (Nat.le_refl _) _).alloc (by simp) _
  cases g1 : wi a 1 99 with
  | false =>
    have HZ := Lib.hid g1
    go_enter Try.func136, Try.ntmps136
    go_wp2_with (go_at_call 84; refine (HW.out _ _ _ _).mono ?_; rintro e w' ⟨rfl, rfl⟩)
    go_ret
    exact ⟨rfl, hb0⟩
  | true =>
    cases g2 : wi b 0 ((n : Int) - 1) with
    | false =>
      go_enter Try.func136, Try.ntmps136
      go_wp2_with (go_at_call 84; refine (HW.out _ _ _ _).mono ?_; rintro e w' ⟨rfl, rfl⟩)
      go_ret
      exact ⟨rfl, hb0⟩
    | true =>
      cases g3 : wi c 0 ((n : Int) - 1) with
      | false =>
        go_enter Try.func136, Try.ntmps136
        go_wp2_with (go_at_call 84; refine (HW.out _ _ _ _).mono ?_; rintro e w' ⟨rfl, rfl⟩)
        go_ret
        exact ⟨rfl, hb0⟩
      | true =>
        go_enter Try.func136, Try.ntmps136
        go_wp2_with (go_at_call 84; refine (HW.out _ _ _ _).mono ?_; rintro e w' ⟨rfl, rfl⟩)
        go_ret
        exact ⟨rfl, hb0⟩

set_option maxHeartbeats 2000000 in
theorem specValidGraph (v : Value) (g : Gr) (w : World) (hv : GrV 0 w.heap.size w v g) :
    Calls Try.prog 110 #[v] w fun e w' => e = .returned (.bool (grOk g)) ∧ Below w.heap.size w w' := by
  obtain ⟨vs, es, rfl, ⟨A1, c1, rfl, hl1, hm1, hx1⟩, ⟨A2, c2, rfl, hl2, hm2, hx2⟩⟩ := hv
  unfold maxLen at hm1 hm2
  have hb0 : Below w.heap.size w (w.alloc (.cells #[.slice A1 g.vals.length c1, .slice A2 g.edges.length c2] 35)) := (Below.refl _ _).alloc (Nat.le_refl _) _
  have HW := Lib.hid l1In_any
  have HX1 := Lib.hid hx1
  have HX2 := Lib.hid hx2
  clear hx1 hx2
  go_enter Try.func110, Try.ntmps110
  go_wp2_with fail
  go_loop [3] (fun ii => ∃ i : Nat, i ≤ g.vals.length ∧ ii = .int .i64 i ∧ (g.vals.take i).all (fun v => wi v 0 2) = true) (fun ii => g.vals.length - (intOf ii).toNat)
  case atStart => exact ⟨0, Nat.zero_le _, rfl, rfl⟩
  case round =>
    obtain ⟨i, hi, rfl, hall⟩ := hrel
    have HA := Lib.hid hall
    clear hall
    by_cases hlt : i < g.vals.length
    · have hxi : g.vals[i]? = some g.vals[i] := List.getElem?_eq_getElem hlt
      obtain ⟨b, o, rfl, -, hb1, hc⟩ := HX1.out i _ hxi
      generalize g.vals[i] = x at hc hxi
      have c0 := hc 0 _ rfl
      simp only [Nat.mul_one, Nat.add_zero] at c0
      have HX := Lib.hid hxi
      clear hc hxi
      cases g4 : wi x 0 2 with
      | true =>
        have G4 := Lib.hid g4
        go_wp2_with (go_at_call 84; refine (HW.out _ _ _ _).mono ?_; rintro e w' ⟨rfl, rfl⟩)
        go_round
        case rel => exact ⟨i + 1, by omega, by go_num, all_take_succ HX.out HA.out G4.out⟩
        case measure => simp [intOf]; omega
      | false =>
        have hfin : grOk g = false := by
          rw [grOk, all_false_of HX.out g4]
          rfl
        have HF := Lib.hid hfin
        clear hfin
        go_wp2_with (go_at_call 84; refine (HW.out _ _ _ _).mono ?_; rintro e w' ⟨rfl, rfl⟩)
        go_ret
        exact ⟨by rw [HF.out]; rfl, hb0⟩
    · obtain rfl : i = g.vals.length := by omega
      have hallv : g.vals.all (fun v => wi v 0 2) = true := by have := HA.out; rwa [List.take_length] at this
      have HV := Lib.hid hallv
      clear hallv HA
      go_wp2_with fail
      go_loopw [4] (fun ii wr => ∃ (i : Nat) (u : World), i ≤ g.edges.length ∧ ii = .int .i64 i ∧ (List.range i).all (edAt g.vals.length g.edges) = true ∧ wr = ext (w.alloc (.cells #[.slice A1 g.vals.length c1, .slice A2 g.edges.length c2] 35)) u) (fun ii _ => g.edges.length - (intOf ii).toNat)
      case atStart => exact ⟨0, _, Nat.zero_le _, rfl, rfl, ext_self _⟩
      case round =>
        obtain ⟨i, u, hi, rfl, hall, rfl⟩ := hrel
        have HA := Lib.hid hall
        clear hall
        by_cases hlt : i < g.edges.length
        · have hxi : g.edges[i]? = some g.edges[i] := List.getElem?_eq_getElem hlt
          obtain ⟨b, o', rfl, -, hb1, hc⟩ := HX2.out i _ hxi
          generalize g.edges[i] = x at hc hxi
          have hb1' : b < w.heap.size + 1 := by omega
          have c0 := hc 0 _ rfl
          have c1' := hc 1 _ rfl
          have c2' := hc 2 _ rfl
          have c3 := hc 3 _ rfl
          simp only [Nat.add_zero] at c0
          have HX := Lib.hid hxi
          have hlen : g.vals.length ≤ 9223372036854775807 := by omega
          clear hc hxi
          have hgr : grOk g = ((List.range g.edges.length).all (edAt g.vals.length g.edges) && wi g.vals.length 1 5 && decide (g.edges.length ≤ 12)) := by
            rw [grOk, HV.out]; rfl
          have HGR := Lib.hid hgr
          clear hgr
          cases g4 : edOk g.vals.length x with
          | false =>
            have hfin : grOk g = false := by
              rw [HGR.out, range_all_false hlt (by rw [edAt, HX.out]; simp [g4])]
              rfl
            have HF := Lib.hid hfin
            clear hfin
            go_wp2_with fail
            refine wp_region_ext_lit (by kernel_rfl) (by kernel_rfl) ?_
            repeat (go_big_quiet_step ((go_at_call 136; exact Calls.ext_of (l3Edge_any A1 g.vals.length c1 _ x _ hlen))))
            refine wpQuiet_nil ?_
            intro _ hw'
            obtain ⟨u2, hw''⟩ := hw'
            subst hw''
            go_wp2_with fail
            go_ret
            exact ⟨by rw [HF.out]; rfl, below_trans hb0 (below_trans (ext_below _ _) (ext_below _ _))⟩
          | true =>
            have G4 := Lib.hid g4
            have hbx : ∀ u2, ∃ z, ext (ext (w.alloc (.cells #[.slice A1 g.vals.length c1, .slice (some ⟨b, o', none⟩) g.edges.length c2] 35)) u) u2 = ext (w.alloc (.cells #[.slice A1 g.vals.length c1, .slice (some ⟨b, o', none⟩) g.edges.length c2] 35)) z :=
              fun u2 => ext_of (below_trans (ext_below _ _) (ext_below _ _))
            by_cases hi0 : i = 0
            · subst hi0
              have hat : edAt g.vals.length g.edges 0 = true := by rw [edAt, HX.out]; simp [G4.out]
              have HAT := Lib.hid hat
              clear hat
              simp only [Nat.zero_mul, Nat.add_zero, Nat.zero_add] at c0 c1' c2' c3
              go_wp2_with fail
              refine wp_region_ext_lit (by kernel_rfl) (by kernel_rfl) ?_
              repeat (go_big_quiet_step ((go_at_call 136; exact Calls.ext_of (l3Edge_any A1 g.vals.length c1 _ x _ hlen))))
              refine wpQuiet_nil ?_
              intro _ hw'
              obtain ⟨u2, hw''⟩ := hw'
              subst hw''
              go_wp2_with fail
              go_roundw
              case rel =>
                obtain ⟨z, hz⟩ := hbx u2
                exact ⟨1, z, by omega, by go_num, range_all_succ HA.out HAT.out, hz⟩
              case measure => simp [intOf]; omega
            · have hi1 : 0 < i := by omega
              have hxj : g.edges[i - 1]? = some g.edges[i - 1] := List.getElem?_eq_getElem (by omega)
              obtain ⟨b9, o9, ho9, -, -, hcj⟩ := HX2.out (i - 1) _ hxj
              obtain ⟨rfl, rfl⟩ : b = b9 ∧ o' = o9 := by injection ho9 with h1; injection h1 with h1 h2; exact ⟨h1, h2⟩
              generalize g.edges[i - 1] = p at hcj hxj
              have hb1' : b < w.heap.size + 1 := by omega
              have p0 := hcj 0 _ rfl
              simp only [Nat.add_zero] at p0
              have HXJ := Lib.hid hxj
              have hi00 : ((i : Int) > 0) := by omega
              clear hcj hxj ho9
              by_cases hlt2 : p.1 < x.1
              · have hat : edAt g.vals.length g.edges i = true := by rw [edAt, HX.out]; simp [G4.out, HXJ.out, hlt2]
                have hge : decide (p.1 ≥ x.1) = false := by simp; omega
                have HAT := Lib.hid hat
                clear hat
                go_wp2_with fail
                have q1 : IntKind.i64.wrap ((i : Int) - 1) = (i : Int) - 1 := IntWalk.i64_in _ (by omega)
                have q2 : 0 ≤ (i : Int) - 1 := by omega
                have q3 : (i : Int) - 1 < (g.edges.length : Int) := by omega
                have q4 : ((i : Int) - 1).toNat = i - 1 := by omega
                refine wp_region_ext_lit (by kernel_rfl) (by kernel_rfl) ?_
                repeat (go_big_quiet_step ((go_at_call 136; exact Calls.ext_of (l3Edge_any A1 g.vals.length c1 _ x _ hlen))))
                refine wpQuiet_nil ?_
                intro _ hw'
                obtain ⟨u2, hw''⟩ := hw'
                subst hw''
                clear q1 q2 q3 q4
                go_wp2_with fail
                go_roundw
                case rel =>
                  obtain ⟨z, hz⟩ := hbx u2
                  exact ⟨i + 1, z, by omega, by go_num, range_all_succ HA.out HAT.out, hz⟩
                case measure => simp [intOf]; omega
              · have hfin : grOk g = false := by
                  rw [HGR.out, range_all_false hlt (by rw [edAt, HX.out]; simp [G4.out, HXJ.out, hi0]; omega)]
                  rfl
                have hge : decide (p.1 ≥ x.1) = true := by simp; omega
                have HF := Lib.hid hfin
                clear hfin
                go_wp2_with fail
                have q1 : IntKind.i64.wrap ((i : Int) - 1) = (i : Int) - 1 := IntWalk.i64_in _ (by omega)
                have q2 : 0 ≤ (i : Int) - 1 := by omega
                have q3 : (i : Int) - 1 < (g.edges.length : Int) := by omega
                have q4 : ((i : Int) - 1).toNat = i - 1 := by omega
                refine wp_region_ext_lit (by kernel_rfl) (by kernel_rfl) ?_
                repeat (go_big_quiet_step ((go_at_call 136; exact Calls.ext_of (l3Edge_any A1 g.vals.length c1 _ x _ hlen))))
                refine wpQuiet_nil ?_
                intro _ hw'
                obtain ⟨u2, hw''⟩ := hw'
                subst hw''
                clear q1 q2 q3 q4
                go_wp2_with fail
                go_ret
                exact ⟨by rw [HF.out]; rfl, below_trans hb0 (below_trans (ext_below _ _) (ext_below _ _))⟩
        · obtain rfl : i = g.edges.length := by omega
          have hgr : grOk g = (wi g.vals.length 1 5 && decide (g.edges.length ≤ 12)) := by
            rw [grOk, HV.out, HA.out]; rfl
          have HGR := Lib.hid hgr
          clear hgr HA HV
          cases g5 : wi g.vals.length 1 5 with
          | false =>
            rw [g5] at HGR
            go_wp2_with (go_at_call 84; refine (HW.out _ _ _ _).mono ?_; rintro e w' ⟨rfl, rfl⟩)
            go_ret
            exact ⟨by rw [HGR.out]; rfl, below_trans hb0 (ext_below _ _)⟩
          | true =>
            rw [g5] at HGR
            have HG5 := Lib.hid g5
            by_cases g6 : g.edges.length ≤ 12
            · have g6' : decide ((g.edges.length : Int) ≤ 12) = true := by simp; omega
              have hfin : grOk g = true := by rw [HGR.out]; simp [g6]
              have HF := Lib.hid hfin
              clear hfin HGR
              go_wp2_with (go_at_call 84; refine (HW.out _ _ _ _).mono ?_; rintro e w' ⟨rfl, rfl⟩)
              go_ret
              exact ⟨by rw [HF.out]; rfl, below_trans hb0 (ext_below _ _)⟩
            · have g6' : decide ((g.edges.length : Int) ≤ 12) = false := by simp; omega
              have hfin : grOk g = false := by rw [HGR.out]; simp [g6]
              have HF := Lib.hid hfin
              clear hfin HGR
              go_wp2_with (go_at_call 84; refine (HW.out _ _ _ _).mono ?_; rintro e w' ⟨rfl, rfl⟩)
              go_ret
              exact ⟨by rw [HF.out]; rfl, below_trans hb0 (ext_below _ _)⟩
end Go.Proofs.Ytajjolkpgfegfaa

