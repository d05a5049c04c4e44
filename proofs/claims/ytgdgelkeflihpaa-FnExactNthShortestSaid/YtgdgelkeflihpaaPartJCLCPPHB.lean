/- Parts of the proof, joined into one text: Nest, LawKit, AscM, ImgM, AutI, SetI, ImgS, ImgI, MapB, KeyS, Seen. -/
import Derived.Test.YtgdgelkeflihpaaPartAAOKINFK
import Derived.Test.YtgdgelkeflihpaaPartHDNEGFCA
import Derived.Lib.SlicesCompact
import Derived.Test.YtgdgelkeflihpaaPartGPKKMHKD
import Derived.Maps.OwnSet
import Derived.DeepKeys4
import Derived.Maps.Views
/- Rows of rows of the call's own, told by the blocks that they hold: an outer row of slices, each of them a row of its own, no two in one block. Over any program. -/
namespace Go.Proofs.Ytgdgelkeflihpaa
set_option linter.unusedVariables false
set_option linter.unusedSimpArgs false
open Go.ChangeShapes Go.WideShapes Go.ChangeAt Go.RowKit

section
variable {H b o : Nat} {w : World}
theorem SlC.intA {xs : List Int} (h : SlC H w cI 1 (some ⟨b, o, none⟩) xs) {i : Nat} {x : Int} (hx : xs[i]? = some x) : b < H ∧ w.cell? ⟨b, o + i, none⟩ = some (.int .i64 x) := by
  obtain ⟨b', o', e, h1, h2⟩ := h.int hx
  injection e with e
  injection e with e1 e2
  subst e1 e2
  exact ⟨h1, h2⟩
theorem SlC.natA {xs : List Nat} (h : SlC H w cN 1 (some ⟨b, o, none⟩) xs) {i : Nat} {x : Nat} (hx : xs[i]? = some x) : b < H ∧ w.cell? ⟨b, o + i, none⟩ = some (.int .i64 (x : Int)) := by
  obtain ⟨b', o', e, h1, h2⟩ := h.nat hx
  injection e with e
  injection e with e1 e2
  subst e1 e2
  exact ⟨h1, h2⟩
theorem SlC.stA {xs : List St} (h : SlC H w cSt 2 (some ⟨b, o, none⟩) xs) {i : Nat} {x : St} (hx : xs[i]? = some x) : b < H ∧ w.cell? ⟨b, o + i * 2, none⟩ = some (.int .i64 x.1) ∧ w.cell? ⟨b, o + i * 2 + 1, none⟩ = some (.bool x.2) := by
  obtain ⟨b', o', e, h1, h2, h3⟩ := h.st hx
  injection e with e
  injection e with e1 e2
  subst e1 e2
  exact ⟨h1, h2, h3⟩
end
theorem flatCV (l : List Value) : l.flatMap cV = l := by
  induction l with
  | nil => rfl
  | cons x l ih => rw [List.flatMap_cons, ih]; rfl
/-- the blocks that slices hold -/
abbrev blks (us : List Value) : List Nat := us.filterMap Value.ownBlock
structure NS {α : Type} (lo : Nat) (w : World) (oT eT : TypeId) (E : α → List Value) (k : Nat) (v : Value) (us : List Value) (xss : List (List α)) : Prop where
  own : w.ownsRow lo oT 1 v us.length (us.flatMap cV)
  len : us.length = xss.length
  rows : ∀ (i : Nat) (u : Value) (xs : List α), us[i]? = some u → xss[i]? = some xs → w.ownsRow lo eT k u xs.length (xs.flatMap E)
  dis : (blks (v :: us)).Nodup
section
variable {α : Type} {lo : Nat} {w w' : World} {oT eT : TypeId} {E : α → List Value} {k : Nat} {v : Value} {us : List Value} {xss : List (List α)}
theorem mem_blks {us : List Value} {b : Nat} : b ∈ blks us ↔ ∃ (i : Nat) (u : Value), us[i]? = some u ∧ u.ownBlock = some b := by
  rw [List.mem_filterMap]
  constructor
  · rintro ⟨u, hu, hb⟩
    obtain ⟨i, hi⟩ := List.getElem?_of_mem hu
    exact ⟨i, u, hi, hb⟩
  · rintro ⟨i, u, hu, hb⟩
    exact ⟨u, List.mem_of_getElem? hu, hb⟩
theorem NS.lt (h : NS lo w oT eT E k v us xss) : ∀ b ∈ blks (v :: us), lo ≤ b ∧ b < w.heap.size := by
  intro b hb
  obtain ⟨i, u, hu, hbu⟩ := mem_blks.1 hb
  cases i with
  | zero =>
    simp only [List.getElem?_cons_zero, Option.some.injEq] at hu
    subst hu
    exact h.own.lt b hbu
  | succ i =>
    rw [List.getElem?_cons_succ] at hu
    have hi : i < xss.length := by rw [← h.len]; exact (List.getElem?_eq_some_iff.1 hu).1
    exact (h.rows i u _ hu (List.getElem?_eq_getElem hi)).lt b hbu
theorem NS.blocks (h : NS lo w oT eT E k v us xss) (hb : ∀ b ∈ blks (v :: us), w'.heap[b]? = w.heap[b]?) : NS lo w' oT eT E k v us xss :=
  ⟨ownsRow_block h.own fun g hg => hb g (mem_blks.2 ⟨0, v, rfl, hg⟩), h.len,
    fun i u xs hu hx => ownsRow_block (h.rows i u xs hu hx) fun g hg => hb g (mem_blks.2 ⟨i + 1, u, by simpa using hu, hg⟩), h.dis⟩
theorem NS.below (h : NS lo w oT eT E k v us xss) (hb : Below w.heap.size w w') : NS lo w' oT eT E k v us xss := h.blocks fun b hm => hb.block b (h.lt b hm).2
theorem NS.mono (h : NS lo w oT eT E k v us xss) {lo' : Nat} (hl : lo' ≤ lo) : NS lo' w oT eT E k v us xss :=
  ⟨ownsRow_mono h.own hl, h.len, fun i u xs hu hx => ownsRow_mono (h.rows i u xs hu hx) hl, h.dis⟩
theorem NS.start (h : w.ownsRow lo oT 1 v 0 []) : NS lo w oT eT E k v [] ([] : List (List α)) :=
  ⟨h, rfl, fun i u xs hu _ => by simp at hu, by cases hv : v.ownBlock <;> simp [hv]⟩
theorem NS.push (h : NS lo w oT eT E k v us xss) {u : Value} {xs : List α} (hu : w.ownsRow lo eT k u xs.length (xs.flatMap E)) (hn : ∀ b, u.ownBlock = some b → b ∉ blks (v :: us))
    {v' : Value} (hg : w.grownBy w' v.ownBlock) (hr : w'.ownsRow lo oT 1 v' (us ++ [u]).length ((us ++ [u]).flatMap cV)) (hat : ∀ g, v'.ownBlock = some g → v.ownBlock = some g ∨ w.heap.size ≤ g) :
    NS lo w' oT eT E k v' (us ++ [u]) (xss ++ [xs]) := by
  have hdis := h.dis
  have hkeep : ∀ (u' : Value) (n : Nat) (cs : List Value), w.ownsRow lo eT k u' n cs → (∀ b, u'.ownBlock = some b → v.ownBlock ≠ some b) → w'.ownsRow lo eT k u' n cs := fun u' n cs ho hne => by
    refine ho.kept hg ?_
    cases hb : u'.ownBlock with
    | none => exact .inl rfl
    | some b => exact .inr fun e => hne b hb e.symm
  have hv0 : ∀ b, v.ownBlock = some b → b ∉ blks us := fun b hb => by
    rw [blks, List.filterMap_cons, hb] at hdis
    exact (List.nodup_cons.1 hdis).1
  refine ⟨hr, by simp [h.len], fun i u' xs' hi hx => ?_, ?_⟩
  · rcases Nat.lt_or_ge i us.length with hlt | hge
    · rw [List.getElem?_append_left hlt] at hi
      rw [List.getElem?_append_left (by rw [← h.len]; exact hlt)] at hx
      exact hkeep _ _ _ (h.rows i u' xs' hi hx) fun b hb hvb => hv0 b hvb (mem_blks.2 ⟨i, u', hi, hb⟩)
    · have hi2 := (List.getElem?_eq_some_iff.1 hi).1
      simp only [List.length_append, List.length_singleton] at hi2
      obtain rfl : i = us.length := by omega
      have e1 : u = u' := by simpa using hi
      have e2 : xs = xs' := by rw [h.len] at hx; simpa using hx
      subst e1 e2
      exact hkeep _ _ _ hu fun b hb hvb => hn b hb (mem_blks.2 ⟨0, v, rfl, hvb⟩)
  · have hlt := h.lt
    have hus : (blks us).Nodup := by
      cases hv : v.ownBlock with
      | none => simpa [blks, List.filterMap_cons, hv] using hdis
      | some b => rw [blks, List.filterMap_cons, hv] at hdis; exact (List.nodup_cons.1 hdis).2
    have hnu : ∀ b, u.ownBlock = some b → b ∉ blks us := fun b hb hm => hn b hb (by
      obtain ⟨i, u', h1, h2⟩ := mem_blks.1 hm
      exact mem_blks.2 ⟨i + 1, u', by simpa using h1, h2⟩)
    have hall : (blks (us ++ [u])).Nodup := by
      rw [blks, List.filterMap_append]
      cases hub : u.ownBlock with
      | none => simpa [List.filterMap_cons, hub] using hus
      | some b =>
        rw [List.filterMap_cons, hub]
        refine List.nodup_append.2 ⟨hus, by simp, ?_⟩
        intro x hx y hy e
        simp only [List.filterMap_nil, List.mem_cons, List.not_mem_nil, or_false] at hy
        subst hy
        subst e
        exact hnu _ hub hx
    rw [blks, List.filterMap_cons]
    cases hv' : v'.ownBlock with
    | none => exact hall
    | some g =>
      refine List.nodup_cons.2 ⟨fun hm => ?_, hall⟩
      obtain ⟨i, u', hi, hb⟩ := mem_blks.1 hm
      rcases Nat.lt_or_ge i us.length with hl | hge
      · rw [List.getElem?_append_left hl] at hi
        rcases hat g hv' with h1 | h1
        · exact hv0 g h1 (mem_blks.2 ⟨i, u', hi, hb⟩)
        · have := (hlt g (mem_blks.2 ⟨i + 1, u', by simpa using hi, hb⟩)).2
          omega
      · have hi2 := (List.getElem?_eq_some_iff.1 hi).1
        simp only [List.length_append, List.length_singleton] at hi2
        obtain rfl : i = us.length := by omega
        have e1 : u = u' := by simpa using hi
        subst e1
        rcases hat g hv' with h1 | h1
        · exact hn g hb (mem_blks.2 ⟨0, v, rfl, h1⟩)
        · have := (hu.lt g hb).2
          omega
theorem grown_alloc {o : Obj} {row : Option Nat} (h : (w.alloc o).grownBy w' row) : w.grownBy w' row :=
  ⟨h.os, h.tape, h.output, Nat.le_trans (by simp) h.size, fun n hn hne => (h.block n (by simp; omega) hne).trans (Below.heap_alloc w o n hn)⟩
/-- what is read of it: the header of row i, and the row -/
theorem NS.row (h : NS lo w oT eT E k v us xss) (hE : ∀ x, (E x).length = k) {i : Nat} {xs : List α} (hx : xss[i]? = some xs) :
    ∃ g cap A c, v = .slice (some ⟨g, 0, none⟩) xss.length cap ∧ us[i]? = some (.slice A xs.length c) ∧ g < w.heap.size ∧ w.cell? ⟨g, i, none⟩ = some (.slice A xs.length c) ∧ xs.length ≤ c ∧ c ≤ maxLen ∧ SlI lo w.heap.size w E k (.slice A xs.length c) xs := by
  have hi : i < us.length := by rw [h.len]; exact (List.getElem?_eq_some_iff.1 hx).1
  have hu : us[i]? = some us[i] := List.getElem?_eq_getElem hi
  have hr := h.rows i _ xs hu hx
  generalize us[i] = u at hu hr
  have hsl := (Own.of_row (xs := xs) hr rfl rfl).sl hE
  have hsl' := hsl
  obtain ⟨A, c, rfl, hl, hm, -⟩ := hsl'
  have hown := h.own
  have hlt := h.own.lt
  rw [flatCV] at hown
  have hown2 := hown
  obtain ⟨h1, h2⟩ := hown2
  rcases h2 with ⟨rfl, h3⟩ | ⟨g, cap, cur, rfl, r⟩
  · omega
  · refine ⟨g, cap, A, c, by rw [h.len], hu, (hlt g rfl).2, ?_, hl, hm, hsl⟩
    rw [World.ownsRow.cellAt hown i (by omega)]
    exact hu
theorem NS.at (h : NS lo w oT eT E k v us xss) (hE : ∀ x, (E x).length = k) {g n cap : Nat} (hv : v = .slice (some ⟨g, 0, none⟩) n cap) {i : Nat} {xs : List α} (hx : xss[i]? = some xs) :
    ∃ A c, w.cell? ⟨g, i, none⟩ = some (.slice A xs.length c) ∧ xs.length ≤ c ∧ c ≤ 9223372036854775807 ∧ SlI lo w.heap.size w E k (.slice A xs.length c) xs := by
  obtain ⟨g', cap', A, c, hv', -, -, hc, h1, h2, h3⟩ := h.row hE hx
  rw [hv] at hv'
  injection hv' with e1 _ _
  injection e1 with e1
  injection e1 with e1
  subst e1
  exact ⟨A, c, hc, h1, h2, h3⟩
/-- a row that is not empty has a block of its own -/
theorem own_some {W : World} {base k n : Nat} {e : TypeId} {v : Value} {cs : List Value} (h : W.ownsRow base e k v n cs) (hn : n ≠ 0) : ∃ g c, v = .slice (some ⟨g, 0, none⟩) n c ∧ base ≤ g ∧ g < W.heap.size ∧ n ≤ c ∧ c ≤ 9223372036854775807 := by
  have hlt := h.lt
  obtain ⟨h1, h2⟩ := h
  rcases h2 with ⟨rfl, h3⟩ | ⟨g, cap, cur, rfl, h4, h5, h6, h7, r⟩
  · exact absurd h3 hn
  · exact ⟨g, cap, rfl, h4, (hlt g rfl).2, h6, h7⟩
theorem NS.shape (h : NS lo w oT eT E k v us xss) : ∃ A c, v = .slice A xss.length c ∧ xss.length ≤ c ∧ c ≤ maxLen := by
  obtain ⟨h1, h2⟩ := h.own
  rcases h2 with ⟨rfl, h3⟩ | ⟨g, cap, cur, rfl, h4, h5, h6, h7, r⟩
  · exact ⟨none, 0, by rw [← h.len, h3], by rw [← h.len, h3]; exact Nat.le_refl _, by unfold maxLen; omega⟩
  · exact ⟨_, cap, by rw [h.len], by rw [← h.len]; exact h6, h7⟩
end
end Go.Proofs.Ytgdgelkeflihpaa

/- Words for laws whose results lie in memory: what is owned outlives marks elsewhere; rows of rows are marked whatever the order of their blocks. -/
namespace Go.Proofs.Ytgdgelkeflihpaa
set_option linter.unusedVariables false
set_option linter.unusedSimpArgs false
open Go.ChangeShapes Go.WideShapes Go.ChangeAt Go.RowKit
attribute [local go_sem] ext_cell ext_frozen ext_lt ext_lt1 ext_lt2 ext_lt3 ltn2 ltn3 ltn13 lts1 lts2 lts3

theorem GrO.only {lo hi : Nat} {w w' : World} {v : Value} {g : Gr} (h : GrO lo hi w v g) {l r : Nat} (hb : Only l r w w') (ho : hi ≤ l ∨ r ≤ lo) : GrO lo hi w' v g := by
  obtain ⟨vs, es, mid, rfl, h1, h2, h3, h4⟩ := h
  exact ⟨vs, es, mid, rfl, h1.only hb (by omega), h2.only hb (by omega), h3, h4⟩
theorem AuO.only {lo hi : Nat} {w w' : World} {v : Value} {a : Au} (h : AuO lo hi w v a) {l r : Nat} (hb : Only l r w w') (ho : hi ≤ l ∨ r ≤ lo) : AuO lo hi w' v a := by
  obtain ⟨ac, nx, mid, rfl, h1, h2, h3, h4⟩ := h
  exact ⟨ac, nx, mid, rfl, h1.only hb (by omega), h2.only hb (by omega), h3, h4⟩

theorem ownsRow_base {w : World} {base b k n : Nat} {e : TypeId} {v : Value} {cs : List Value} (hb : ∀ g, v.ownBlock = some g → b ≤ g) (h : w.ownsRow base e k v n cs) : w.ownsRow b e k v n cs := by
  obtain ⟨hl, hs⟩ := h
  rcases hs with ⟨rfl, hn⟩ | ⟨g, cap, cur, rfl, hg, r⟩
  · exact ⟨hl, .inl ⟨rfl, hn⟩⟩
  · exact ⟨hl, .inr ⟨g, cap, cur, rfl, hb g rfl, r⟩⟩
theorem filterMap_inj {α β : Type} {f : α → Option β} {L : List α} (h : (L.filterMap f).Nodup) {i j : Nat} {x y : α} (hi : L[i]? = some x) (hj : L[j]? = some y) {b : β} (hx : f x = some b) (hy : f y = some b) : i = j := by
  have hp := List.pairwise_filterMap.1 h
  rw [List.pairwise_iff_getElem] at hp
  obtain ⟨hi1, hi2⟩ := List.getElem?_eq_some_iff.1 hi
  obtain ⟨hj1, hj2⟩ := List.getElem?_eq_some_iff.1 hj
  rcases Nat.lt_trichotomy i j with hl | he | hg
  · exact absurd rfl (hp i j hi1 hj1 hl b (by rw [hi2]; exact hx) b (by rw [hj2]; exact hy))
  · exact he
  · exact absurd rfl (hp j i hj1 hi1 hg b (by rw [hj2]; exact hy) b (by rw [hi2]; exact hx))
theorem NS.turn {α : Type} {lo : Nat} {w w' : World} {oT eT : TypeId} {E : α → List Value} {k : Nat} {v : Value} {us : List Value} {xss : List (List α)} (h : NS lo w oT eT E k v us xss) {i : Nat} {u : Value} {xs' : List α} (hu : us[i]? = some u)
    (hr : w'.ownsRow lo eT k u xs'.length (xs'.flatMap E)) (hb : ∀ b ∈ blks (v :: us), u.ownBlock ≠ some b → w'.heap[b]? = w.heap[b]?) : NS lo w' oT eT E k v us (xss.set i xs') := by
  have hdis := h.dis
  refine ⟨ownsRow_block h.own fun g hg => hb g (mem_blks.2 ⟨0, v, rfl, hg⟩) fun e => ?_, by simp [h.len], fun j u2 xs2 hj hx => ?_, hdis⟩
  · have := filterMap_inj (i := 0) (j := i + 1) hdis rfl (by simpa using hu) hg e
    omega
  · by_cases hij : i = j
    · subst hij
      rw [hu] at hj
      injection hj with hj
      subst hj
      have hl := (List.getElem?_eq_some_iff.1 hx).1
      rw [List.length_set] at hl
      rw [List.getElem?_set_self hl] at hx
      injection hx with hx
      subst hx
      exact hr
    · rw [List.getElem?_set_ne hij] at hx
      refine ownsRow_block (h.rows j u2 xs2 hj hx) fun g hg => hb g (mem_blks.2 ⟨j + 1, u2, by simpa using hj, hg⟩) fun e => ?_
      have := filterMap_inj (i := i + 1) (j := j + 1) hdis (by simpa using hu) (by simpa using hj) e hg
      omega
/-- an owned row lies in its own block alone -/
theorem own_tight {α : Type} {E : α → List Value} {w : World} {base k : Nat} {e : TypeId} {v : Value} {xs : List α} (h : w.ownsRow base e k v xs.length (xs.flatMap E)) :
    ∃ l r, Own l r w e E k v xs ∧ (∀ b, l ≤ b → b < r → v.ownBlock = some b) ∧ (l < r → base ≤ l ∧ r ≤ w.heap.size) := by
  have hlt := h.lt
  obtain ⟨hl, hs⟩ := h
  rcases hs with ⟨rfl, hn⟩ | ⟨g, cap, cur, rfl, hg, hh, rr⟩
  · exact ⟨0, 0, ⟨⟨hl, .inl ⟨rfl, hn⟩⟩, by intro g hg; cases hg⟩, by intro b _ hb; omega, by omega⟩
  · have h2 := hlt g rfl
    refine ⟨g, g + 1, ⟨⟨hl, .inr ⟨g, cap, cur, rfl, Nat.le_refl _, hh, rr⟩⟩, by intro b hb; injection hb with hb; subst hb; exact Nat.lt_succ_self _⟩, fun b h1 h2 => ?_, fun _ => by omega⟩
    obtain rfl : b = g := by omega
    rfl

/-- rows of rows whose blocks all lie from lo to hi -/
def NSO (lo hi : Nat) (w : World) (v : Value) (xss : List (List Int)) : Prop :=
  ∃ us, NS lo w 27 3 cI 1 v us xss ∧ ∀ b ∈ blks (v :: us), b < hi
section
variable {lo hi : Nat} {w w' : World} {v : Value} {xss : List (List Int)}
theorem NSO.of {us : List Value} (h : NS lo w 27 3 cI 1 v us xss) : NSO lo w.heap.size w v xss := ⟨us, h, fun b hb => (h.lt b hb).2⟩
theorem NSO.view (h : NSO lo hi w v xss) : SSV lo hi w v xss := by
  obtain ⟨us, h, hl⟩ := h
  refine ⟨us, Own.sl ⟨h.own, fun g hg => hl g (mem_blks.2 ⟨0, v, rfl, hg⟩)⟩ cV_len, h.len, fun i u xs hu hx => ?_⟩
  exact Own.sl ⟨h.rows i u xs hu hx, fun g hg => hl g (mem_blks.2 ⟨i + 1, u, by simpa using hu, hg⟩)⟩ cI_len
theorem NSO.below (h : NSO lo hi w v xss) {B : Nat} (hb : Below B w w') (hB : hi ≤ B) : NSO lo hi w' v xss := by
  obtain ⟨us, h, hl⟩ := h
  exact ⟨us, h.blocks fun b hm => hb.block b (by have := hl b hm; omega), hl⟩
theorem NSO.only (h : NSO lo hi w v xss) {l r : Nat} (hb : Only l r w w') (ho : hi ≤ l ∨ r ≤ lo) : NSO lo hi w' v xss := by
  obtain ⟨us, h, hl⟩ := h
  exact ⟨us, h.blocks fun b hm => hb.block b (h.lt b hm).2 (by have := hl b hm; have := (h.lt b hm).1; omega), hl⟩
theorem NSO.mono (h : NSO lo hi w v xss) {lo' hi' : Nat} (h1 : lo' ≤ lo) (h2 : hi ≤ hi') : NSO lo' hi' w v xss := by
  obtain ⟨us, h, hl⟩ := h
  exact ⟨us, h.mono h1, fun b hb => by have := hl b hb; omega⟩
end

set_option maxHeartbeats 1000000 in
theorem markNS_any (lo hi : Nat) (v : Value) (xss : List (List Int)) (k : Int) (w : World) (hv : NSO lo hi w v xss) (hk : 0 ≤ k) (hb : k + sumLen xss ≤ 4611686018427387904) (hhi : hi ≤ w.heap.size) :
    Calls Try.prog 66 #[v, .int .i64 k] w fun en w' => en = .returned (.int .i64 (k + sumLen xss)) ∧ NSO lo hi w' v (mkSS k xss) ∧ Only lo hi w w' := by
  obtain ⟨us, hns, hlt⟩ := hv
  obtain ⟨A, c, rfl, hl, hm⟩ := hns.shape
  have HNS0 := Lib.hid hns
  have HLT := Lib.hid hlt
  unfold maxLen at hm
  have hz := fun i => sumLen_take_le xss i
  clear hns hlt
  go_enter Try.func66, Try.ntmps66
  go_wp2
  go_loopw [1, 5] (fun kk ii wr => ∃ i : Nat, i ≤ xss.length ∧ kk = .int .i64 (k + sumLen (xss.take i)) ∧ ii = .int .i64 i ∧ NS lo wr 27 3 cI 1 (.slice A xss.length c) us (mkSS k (xss.take i) ++ xss.drop i) ∧ Only lo hi w wr) (fun _ ii _ => xss.length - (intOf ii).toNat)
  case atStart => exact ⟨0, Nat.zero_le _, by simp [sumLen], rfl, by simpa [mkSS] using HNS0.out, Only.refl _ _ _⟩
  case round =>
    obtain ⟨i, hi', rfl, rfl, hns, honly⟩ := hrel
    have HNS := Lib.hid hns
    clear hns
    by_cases hlt : i < xss.length
    · have hxi : xss[i]? = some xss[i] := List.getElem?_eq_getElem hlt
      have hd2 := List.drop_eq_getElem_cons hlt
      have hz1 := hz i
      have hz2 := hz (i + 1)
      have ht2 : xss.take (i + 1) = xss.take i ++ [xss[i]] := take_snoc hxi
      generalize xss[i] = xs at hd2 ht2 hxi
      have hmi : (mkSS k (xss.take i) ++ xss.drop i)[i]? = some xs := by
        rw [List.getElem?_append_right (by rw [mkSS_len, List.length_take]; omega), mkSS_len, List.length_take, hd2]
        simp [Nat.min_eq_left (Nat.le_of_lt hlt)]
      obtain ⟨g, cap, A1, c1, hv1, hui, hgl, hcell, -, -, -⟩ := HNS.out.row cI_len hmi
      have hri := HNS.out.rows i _ xs hui hmi
      injection hv1 with e1 e2 e3
      subst e1
      obtain ⟨l, r, hown, htight, hlr⟩ := own_tight hri
      have hri2 := hri.lt
      have hsum : sumLen (xss.take (i + 1)) = sumLen (xss.take i) + xs.length := by rw [ht2, sumLen_app]; simp [sumLen]
      have hmk : (mkSS k (xss.take i) ++ xss.drop i).set i (mkInt (k + sumLen (xss.take i)) xs.length) = mkSS k (xss.take (i + 1)) ++ xss.drop (i + 1) := by
        rw [ht2, mkSS_app, hd2, List.set_append_right _ _ (by rw [mkSS_len, List.length_take]; omega), mkSS_len, List.length_take, Nat.min_eq_left (Nat.le_of_lt hlt), Nat.sub_self]
        simp [mkSS]
      rw [hsum] at hz2
      have HS := Lib.hid hsum
      have HM := Lib.hid hmk
      have HUI := Lib.hid hui
      have HT := Lib.hid htight
      have HLR := Lib.hid hlr
      have HOWN := Lib.hid hown
      have hcell : wr.cell? ⟨g, i, none⟩ = some (.slice A1 xs.length c1) := hcell
      have hsw := honly.size
      have hhi2 : hi ≤ wr.heap.size := by omega
      have hrb : l < r → lo ≤ l ∧ r ≤ hi := fun h => ⟨(hlr h).1, by
        have := htight (r - 1) (by omega) (by omega)
        have := HLT.out (r - 1) (mem_blks.2 ⟨i + 1, _, by simpa using hui, this⟩)
        omega⟩
      have HRB := Lib.hid hrb
      clear hxi hd2 ht2 hmi hui hri hri2 hsum hmk hz htight hlr hown e2 e3 hrb
      go_wp2_with fail
      refine (markIntS_any l r _ _ xs (k + sumLen (xss.take i)) _ HOWN.out (by omega) (by omega)).mono ?_
      rintro e w2 ⟨rfl, ho2, hon2⟩
      go_wp2_with fail
      go_roundw
      case rel =>
        refine ⟨i + 1, by omega, ?_, by go_num, ?_, ?_⟩
        · rw [HS.out]; go_num
        · rw [← HM.out]
          refine HNS.out.turn HUI.out ?_ fun b hm hne => hon2.block b (HNS.out.lt b hm).2 ?_
          · refine ownsRow_base ?_ ho2.1
            intro g hg
            rcases Nat.lt_or_ge l r with h | h
            · have := HRB.out h
              have := ho2.lt g hg
              omega
            · have := ho2.lt g hg
              omega
          · rcases Nat.lt_or_ge b l with h | h
            · exact .inl h
            · rcases Nat.lt_or_ge b r with h2 | h2
              · exact absurd (HT.out b h h2) hne
              · exact .inr h2
        · rcases Nat.lt_or_ge l r with h | h
          · exact honly.trans (hon2.mono (HRB.out h).1 (HRB.out h).2)
          · exact honly.trans ⟨hon2.os, hon2.tape, hon2.output, hon2.size, fun n hn _ => hon2.block n hn (by omega)⟩
      case measure => simp [intOf]; omega
    · obtain rfl : i = xss.length := by omega
      rw [List.take_length, List.drop_length, List.append_nil] at HNS
      clear hz
      go_wp2_with fail
      go_ret
      exact ⟨ret_int (by simp), ⟨us, HNS.out, HLT.out⟩, honly⟩
end Go.Proofs.Ytgdgelkeflihpaa

/- Plain: numbers in ascending order, each once. -/
namespace Go.Proofs.Ytgdgelkeflihpaa
set_option linter.unusedVariables false
set_option linter.unusedSimpArgs false
open Go.Lib
def ascL (xs : List Int) : List Int := Lib.compact (xs.mergeSort fun x y => decide (x ≤ y))
theorem get_bang {zs : List Int} {j : Nat} (h : j < zs.length) : zs.toArray[j]! = zs[j] := by
  rw [getElem!_pos _ j (by simpa using h)]; simp
theorem asc_aux {zs : List Int} (hs : zs.Pairwise (· ≤ ·)) : ∀ m, m ≤ zs.length → (compactUpTo zs.toArray m).Pairwise (· < ·) ∧ ∀ x, x ∈ compactUpTo zs.toArray m ↔ ∃ j, ∃ h : j < zs.length, j < m ∧ zs[j] = x := by
  intro m
  induction m with
  | zero => intro _; simp [compactUpTo]
  | succ m ih =>
    intro hm
    obtain ⟨ih1, ih2⟩ := ih (by omega)
    have hml : m < zs.length := by omega
    rw [compactUpTo_succ]
    have hbd : ∀ x ∈ compactUpTo zs.toArray m, x ≤ zs[m] ∧ (0 < m → x ≤ zs[m - 1]) := fun x hx => by
      obtain ⟨j, hj, hjm, rfl⟩ := (ih2 x).1 hx
      refine ⟨List.pairwise_iff_getElem.1 hs j m hj hml hjm, fun h0 => ?_⟩
      rcases Nat.lt_or_ge j (m - 1) with h | h
      · exact List.pairwise_iff_getElem.1 hs j (m - 1) hj (by omega) h
      · have : j = m - 1 := by omega
        subst this
        exact Int.le_refl _
    by_cases hk : keeps zs.toArray m = true
    · rw [if_pos hk, get_bang hml]
      refine ⟨List.pairwise_append.2 ⟨ih1, by simp, fun x hx y hy => ?_⟩, fun x => ?_⟩
      · rw [List.mem_singleton] at hy
        subst hy
        rcases Nat.eq_zero_or_pos m with h0 | h0
        · subst h0
          simp [compactUpTo] at hx
        · have h1 := (hbd x hx).2 h0
          have h2 : zs[m - 1] ≤ zs[m] := List.pairwise_iff_getElem.1 hs (m - 1) m (by omega) hml (by omega)
          have h3 : zs[m] ≠ zs[m - 1] := by
            simp only [keeps, decide_eq_true_eq] at hk
            rcases hk with h | h
            · omega
            · rwa [get_bang hml, get_bang (show m - 1 < zs.length by omega)] at h
          have h4 : zs[m - 1] ≠ zs[m] := fun e => h3 e.symm
          omega
      · rw [List.mem_append, List.mem_singleton, ih2]
        constructor
        · rintro (⟨j, hj, hjm, rfl⟩ | rfl)
          · exact ⟨j, hj, by omega, rfl⟩
          · exact ⟨m, hml, by omega, rfl⟩
        · rintro ⟨j, hj, hjm, rfl⟩
          rcases Nat.lt_or_ge j m with h | h
          · exact .inl ⟨j, hj, h, rfl⟩
          · obtain rfl : j = m := by omega
            exact .inr rfl
    · rw [if_neg hk, List.append_nil]
      refine ⟨ih1, fun x => ?_⟩
      rw [ih2]
      have h0 : 0 < m ∧ zs[m] = zs[m - 1] := by
        simp only [keeps, decide_eq_true_eq, not_or] at hk
        refine ⟨by omega, ?_⟩
        have := hk.2
        rw [get_bang hml, get_bang (show m - 1 < zs.length by omega)] at this
        exact Classical.not_not.1 this
      constructor
      · rintro ⟨j, hj, hjm, rfl⟩
        exact ⟨j, hj, by omega, rfl⟩
      · rintro ⟨j, hj, hjm, rfl⟩
        rcases Nat.lt_or_ge j m with h | h
        · exact ⟨j, hj, h, rfl⟩
        · obtain rfl : j = m := by omega
          exact ⟨j - 1, by omega, by omega, h0.2.symm⟩
theorem ascL_spec (xs : List Int) : (ascL xs).Pairwise (· < ·) ∧ ∀ x, x ∈ ascL xs ↔ x ∈ xs := by
  have hs : (xs.mergeSort fun x y => decide (x ≤ y)).Pairwise (· ≤ ·) := by
    have h := List.pairwise_mergeSort (le := fun x y : Int => decide (x ≤ y)) (fun a b c h1 h2 => by simp only [decide_eq_true_eq] at *; omega) (fun a b => by simp only [Bool.or_eq_true, decide_eq_true_eq]; omega) xs
    exact h.imp (fun h => by simpa using h)
  obtain ⟨h1, h2⟩ := asc_aux hs _ (Nat.le_refl _)
  refine ⟨h1, fun x => ?_⟩
  have h3 := h2 x
  unfold ascL compact
  rw [h3, ← List.mem_mergeSort (le := fun x y : Int => decide (x ≤ y)), List.mem_iff_getElem]
  constructor
  · rintro ⟨j, hj, _, e⟩; exact ⟨j, hj, e⟩
  · rintro ⟨j, hj, e⟩; exact ⟨j, hj, hj, e⟩
theorem asc_uniq : ∀ {l r : List Int}, l.Pairwise (· < ·) → r.Pairwise (· < ·) → (∀ x, x ∈ l ↔ x ∈ r) → l = r
  | [], [], _, _, _ => rfl
  | [], y :: r, _, _, h => absurd ((h y).2 (by simp)) (by simp)
  | x :: l, [], _, _, h => absurd ((h x).1 (by simp)) (by simp)
  | x :: l, y :: r, h1, h2, h => by
    obtain ⟨a1, a2⟩ := List.pairwise_cons.1 h1
    obtain ⟨b1, b2⟩ := List.pairwise_cons.1 h2
    have hxy : x = y := by
      have e1 := (h x).1 (by simp)
      have e2 := (h y).2 (by simp)
      rcases List.mem_cons.1 e1 with e1 | e1
      · exact e1
      · rcases List.mem_cons.1 e2 with e2 | e2
        · exact e2.symm
        · have := b1 x e1
          have := a1 y e2
          omega
    subst hxy
    rw [asc_uniq a2 b2 fun z => ?_]
    have hz := h z
    simp only [List.mem_cons] at hz
    constructor
    · intro hm
      rcases hz.1 (.inr hm) with e | e
      · have := a1 z hm; omega
      · exact e
    · intro hm
      rcases hz.2 (.inr hm) with e | e
      · have := b1 z hm; omega
      · exact e
/-- the members of a set, as numbers -/
def memI (n m : Nat) : List Int := (mem n m).map fun (t : Nat) => (t : Int)
theorem memI_asc (n m : Nat) : (memI n m).Pairwise (· < ·) := by
  unfold memI mem
  rw [List.pairwise_map]
  refine (List.Pairwise.filter _ (List.pairwise_lt_range)).imp fun h => by omega
theorem mem_memI {n m : Nat} {x : Int} : x ∈ memI n m ↔ ∃ t : Nat, x = (t : Int) ∧ t < n ∧ m.testBit t = true := by
  unfold memI
  rw [List.mem_map]
  constructor
  · rintro ⟨t, ht, rfl⟩; exact ⟨t, rfl, mem_mem.1 ht⟩
  · rintro ⟨t, rfl, h⟩; exact ⟨t, mem_mem.2 h, rfl⟩
end Go.Proofs.Ytgdgelkeflihpaa

/- LoopImages, plainly: the pairs of states that one word leads to, in the order in which they are met. -/
namespace Go.Proofs.Ytgdgelkeflihpaa
set_option linter.unusedVariables false
set_option linter.unusedSimpArgs false

def nxP (f : Int → Nat → Int) (u : Int × Int) (k : Nat) : Int × Int := (f u.1 k, f u.2 k)
/-- one letter: the pairs met so far -/
def metP (f : Int → Nat → Int) (u : Int × Int) (r : List (Int × Int)) (k : Nat) : List (Int × Int) :=
  if (nxP f u k).2 < 0 ∨ nxP f u k ∈ r then r else r ++ [nxP f u k]
/-- the letters below k -/
def rowP (f : Int → Nat → Int) (u : Int × Int) (r : List (Int × Int)) : Nat → List (Int × Int)
  | 0 => r
  | k + 1 => metP f u (rowP f u r k) k
/-- the first k pairs taken -/
def imgP (f : Int → Nat → Int) (L : Nat) (s : Int × Int) : Nat → List (Int × Int)
  | 0 => []
  | k + 1 => match (s :: imgP f L s k)[k]? with
    | none => imgP f L s k
    | some u => rowP f u (imgP f L s k) L
/-- those that lie at q -/
def outP (q : Int) (r : List (Int × Int)) : List Int := (r.filter fun z => decide (z.2 = q)).map (·.1)

theorem metP_pre (f : Int → Nat → Int) (u : Int × Int) (r : List (Int × Int)) (k : Nat) : r <+: metP f u r k := by
  unfold metP; split
  · exact List.prefix_refl _
  · exact ⟨_, rfl⟩
theorem rowP_pre (f : Int → Nat → Int) (u : Int × Int) (r : List (Int × Int)) : ∀ k, r <+: rowP f u r k
  | 0 => List.prefix_refl _
  | k + 1 => (rowP_pre f u r k).trans (metP_pre f u _ k)
theorem imgP_succ {f : Int → Nat → Int} {L : Nat} {s : Int × Int} {k : Nat} {u : Int × Int} (h : (s :: imgP f L s k)[k]? = some u) : imgP f L s (k + 1) = rowP f u (imgP f L s k) L := by
  simp only [imgP, h]
theorem imgP_stop {f : Int → Nat → Int} {L : Nat} {s : Int × Int} {k : Nat} (h : (s :: imgP f L s k)[k]? = none) : imgP f L s (k + 1) = imgP f L s k := by
  simp only [imgP, h]
theorem imgP_pre (f : Int → Nat → Int) (L : Nat) (s : Int × Int) (k : Nat) : imgP f L s k <+: imgP f L s (k + 1) := by
  rcases h : (s :: imgP f L s k)[k]? with _ | u
  · rw [imgP_stop h]; exact List.prefix_refl _
  · rw [imgP_succ h]; exact rowP_pre f u _ L
theorem metP_good {f : Int → Nat → Int} {N : Int} (hf : ∀ s k, -1 ≤ f s k ∧ f s k < N) {u : Int × Int} {r : List (Int × Int)} (h : r.Nodup ∧ ∀ z ∈ r, -1 ≤ z.1 ∧ z.1 < N ∧ 0 ≤ z.2 ∧ z.2 < N) (k : Nat) :
    (metP f u r k).Nodup ∧ ∀ z ∈ metP f u r k, -1 ≤ z.1 ∧ z.1 < N ∧ 0 ≤ z.2 ∧ z.2 < N := by
  unfold metP; split
  · exact h
  · rename_i hc
    rw [not_or] at hc
    refine ⟨List.nodup_append.2 ⟨h.1, by simp, fun a ha b hb => ?_⟩, fun z hz => ?_⟩
    · rw [List.mem_singleton] at hb
      subst hb
      exact fun e => hc.2 (e ▸ ha)
    · rcases List.mem_append.1 hz with hz | hz
      · exact h.2 z hz
      · rw [List.mem_singleton] at hz
        subst hz
        exact ⟨(hf _ _).1, (hf _ _).2, by have := hc.1; omega, (hf _ _).2⟩
theorem rowP_good {f : Int → Nat → Int} {N : Int} (hf : ∀ s k, -1 ≤ f s k ∧ f s k < N) {u : Int × Int} {r : List (Int × Int)} (h : r.Nodup ∧ ∀ z ∈ r, -1 ≤ z.1 ∧ z.1 < N ∧ 0 ≤ z.2 ∧ z.2 < N) : ∀ k : Nat,
    (rowP f u r k).Nodup ∧ ∀ z ∈ rowP f u r k, -1 ≤ z.1 ∧ z.1 < N ∧ 0 ≤ z.2 ∧ z.2 < N
  | 0 => h
  | k + 1 => metP_good hf (rowP_good hf h k) k
theorem imgP_good {f : Int → Nat → Int} {N : Int} (hf : ∀ s k, -1 ≤ f s k ∧ f s k < N) (L : Nat) (s : Int × Int) : ∀ k : Nat,
    (imgP f L s k).Nodup ∧ ∀ z ∈ imgP f L s k, -1 ≤ z.1 ∧ z.1 < N ∧ 0 ≤ z.2 ∧ z.2 < N
  | 0 => ⟨List.nodup_nil, fun z hz => by cases hz⟩
  | k + 1 => by
    rcases h : (s :: imgP f L s k)[k]? with _ | u
    · rw [imgP_stop h]; exact imgP_good hf L s k
    · rw [imgP_succ h]; exact rowP_good hf (imgP_good hf L s k) L
theorem nodup_subN : ∀ (s l : List Nat), s.Nodup → (∀ x ∈ s, x ∈ l) → s.length ≤ l.length
  | [], _, _, _ => Nat.zero_le _
  | x :: s, l, hn, h => by
    obtain ⟨h1, h2⟩ := List.nodup_cons.1 hn
    have hx := h x (by simp)
    have := nodup_subN s (l.erase x) h2 (fun y hy => by
      have hne : y ≠ x := fun e => h1 (e ▸ hy)
      exact (List.mem_erase_of_ne hne).2 (h y (List.mem_cons_of_mem _ hy)))
    rw [List.length_erase_of_mem hx] at this
    have hp := List.length_pos_of_mem hx
    rw [List.length_cons]
    omega
/-- so there are at most (N + 1) * N of them -/
theorem good_len {N : Nat} {r : List (Int × Int)} (h : r.Nodup ∧ ∀ z ∈ r, -1 ≤ z.1 ∧ z.1 < (N : Int) ∧ 0 ≤ z.2 ∧ z.2 < (N : Int)) : r.length ≤ (N + 1) * N := by
  have h1 := nodup_subN (r.map fun z => (z.1 + 1).toNat * N + z.2.toNat) (List.range ((N + 1) * N)) ?_ ?_
  · simpa using h1
  · rw [List.Nodup, List.pairwise_map]
    refine List.Pairwise.imp_of_mem ?_ h.1
    intro a b ha hb hne he
    refine hne ?_
    obtain ⟨a1, a2, a3, a4⟩ := h.2 a ha
    obtain ⟨b1, b2, b3, b4⟩ := h.2 b hb
    have hN : 0 < N := by omega
    have hd : ((a.1 + 1).toNat * N + a.2.toNat) / N = ((b.1 + 1).toNat * N + b.2.toNat) / N := by rw [he]
    have hm : ((a.1 + 1).toNat * N + a.2.toNat) % N = ((b.1 + 1).toNat * N + b.2.toNat) % N := by rw [he]
    rw [Nat.mul_comm, Nat.mul_add_div hN, Nat.div_eq_of_lt (by omega), Nat.mul_comm _ N, Nat.mul_add_div hN, Nat.div_eq_of_lt (by omega)] at hd
    rw [Nat.mul_comm, Nat.mul_add_mod, Nat.mod_eq_of_lt (by omega), Nat.mul_comm _ N, Nat.mul_add_mod, Nat.mod_eq_of_lt (by omega)] at hm
    exact Prod.ext (by omega) (by omega)
  · intro x hx
    obtain ⟨z, hz, rfl⟩ := List.mem_map.1 hx
    obtain ⟨z1, z2, z3, z4⟩ := h.2 z hz
    rw [List.mem_range]
    have h2 : (z.1 + 1).toNat * N ≤ N * N := Nat.mul_le_mul_right _ (by omega)
    rw [Nat.add_mul]
    omega
/-- the numbers at q: each once, in bounds -/
theorem outP_good {N q : Int} {r : List (Int × Int)} (h : r.Nodup ∧ ∀ z ∈ r, -1 ≤ z.1 ∧ z.1 < N ∧ 0 ≤ z.2 ∧ z.2 < N) : (outP q r).Nodup ∧ ∀ x ∈ outP q r, -1 ≤ x ∧ x < N := by
  refine ⟨?_, fun x hx => ?_⟩
  · unfold outP
    rw [List.Nodup, List.pairwise_map]
    refine List.Pairwise.imp_of_mem ?_ (List.Pairwise.filter _ h.1)
    intro a b ha hb hne he
    refine hne ?_
    have ha2 := of_decide_eq_true (List.mem_filter.1 ha).2
    have hb2 := of_decide_eq_true (List.mem_filter.1 hb).2
    exact Prod.ext he (ha2.trans hb2.symm)
  · obtain ⟨z, hz, rfl⟩ := List.mem_map.1 hx
    have := h.2 z (List.mem_filter.1 hz).1
    exact ⟨this.1, this.2.1⟩
theorem mem_outP {q x : Int} {r : List (Int × Int)} : x ∈ outP q r ↔ (x, q) ∈ r := by
  unfold outP
  rw [List.mem_map]
  constructor
  · rintro ⟨z, hz, rfl⟩
    obtain ⟨h1, h2⟩ := List.mem_filter.1 hz
    rw [← of_decide_eq_true h2]
    exact h1
  · intro h
    exact ⟨_, List.mem_filter.2 ⟨h, by simp⟩, rfl⟩
theorem outP_metP_new {f : Int → Nat → Int} {u : Int × Int} {r : List (Int × Int)} {k : Nat} {q : Int} (h : ¬ ((nxP f u k).2 < 0 ∨ nxP f u k ∈ r)) :
    outP q (metP f u r k) = if (nxP f u k).2 = q then outP q r ++ [(nxP f u k).1] else outP q r := by
  unfold metP outP
  rw [if_neg h]
  by_cases hq : (nxP f u k).2 = q <;> simp [hq]
/-- the reference's side: a pair met again adds nothing -/
theorem mem_outP_metP {f : Int → Nat → Int} {u : Int × Int} {r : List (Int × Int)} {k : Nat} {q : Int} (hz : ¬ (nxP f u k).2 < 0) (x : Int) :
    x ∈ outP q (metP f u r k) ↔ x ∈ outP q r ∨ ((nxP f u k).2 = q ∧ x = (nxP f u k).1) := by
  rw [mem_outP, mem_outP]
  unfold metP
  by_cases hr : nxP f u k ∈ r
  · rw [if_pos (.inr hr)]
    constructor
    · exact .inl
    · rintro (h | ⟨h1, rfl⟩)
      · exact h
      · rw [← h1]; exact hr
  · rw [if_neg (by rw [not_or]; exact ⟨hz, hr⟩), List.mem_append, List.mem_singleton]
    constructor
    · rintro (h | h)
      · exact .inl h
      · exact .inr ⟨by rw [← h], by rw [← h]⟩
    · rintro (h | ⟨h1, h2⟩)
      · exact .inl h
      · exact .inr (Prod.ext h2 h1.symm)
/-- all pairs taken: nothing more comes -/
theorem imgP_still {f : Int → Nat → Int} {L : Nat} {s : Int × Int} {k : Nat} (h : (imgP f L s k).length < k) : ∀ j, imgP f L s (k + j) = imgP f L s k
  | 0 => rfl
  | j + 1 => by
    have ih := imgP_still h j
    rw [← Nat.add_assoc, imgP_stop, ih]
    rw [ih]
    exact List.getElem?_eq_none (by simp; omega)

end Go.Proofs.Ytgdgelkeflihpaa

/- The program's functions on automata. -/
namespace Go.Proofs.Ytgdgelkeflihpaa
set_option linter.unusedVariables false
set_option linter.unusedSimpArgs false
open Go.ChangeShapes Go.WideShapes Go.ChangeAt Go.RowKit
attribute [local go_sem] ext_cell ext_frozen ext_lt ext_lt1 ext_lt2 ext_lt3 ltn2 ltn3 ltn13 lts1 lts2 lts3

theorem within_any (n a b : Int) (w : World) : Calls Try.prog 69 #[.int .i64 n, .int .i64 a, .int .i64 b] w fun e w' => e = .returned (.bool (wi n a b)) ∧ w' = w := by
  unfold wi
  by_cases h1 : a ≤ n
  · have e1 : decide (a ≤ n) = true := by simpa using h1
    by_cases h2 : n ≤ b
    · go_enter Try.func69, Try.ntmps69
      go_wp2
      go_ret
      exact ⟨by simp [h1, h2], rfl⟩
    · go_enter Try.func69, Try.ntmps69
      go_wp2
      go_ret
      exact ⟨by simp [h1]; try omega, rfl⟩
  · have e1 : decide (a ≤ n) = false := by simpa using h1
    go_enter Try.func69, Try.ntmps69
    go_wp2
    go_ret
    exact ⟨by simp [h1]; try omega, rfl⟩

set_option maxHeartbeats 1000000 in
theorem implValidAutomaton (v : Value) (a : Au) (w : World) (hv : AuV 0 w.heap.size w v a) :
    Calls Try.prog 107 #[v] w fun e w' => e = .returned (.bool (auOk a)) ∧ Below w.heap.size w w' := by
  obtain ⟨ac, nx, rfl, ⟨A1, c1, rfl, hl1, hm1, -⟩, us, ⟨A2, c2, rfl, hl2, hm2, hx2⟩, hul, hrows⟩ := hv
  rw [hul] at hl2 ⊢
  have HU := Lib.hid hul
  clear hul
  unfold maxLen at hm1 hm2
  have hb0 : Below w.heap.size w (w.alloc (.cells #[.int .i64 a.start, .slice A1 a.accept.length c1, .slice A2 a.next.length c2] 29)) := (Below.refl _ _).alloc (Nat.le_refl _) _
  have HW := Lib.hid within_any
  by_cases g1 : wi a.accept.length 1 12 = true
  · by_cases g2 : wi a.start 0 ((a.accept.length : Int) - 1) = true
    · by_cases g3 : a.next.length = a.accept.length
      · have HG3 := Lib.hid g3
        have g3' : ((a.next.length : Int) != (a.accept.length : Int)) = false := by simp; omega
        have hr : auOk a = a.next.all (rowOk a.accept.length) := by simp [auOk, g1, g2, g3]
        have HR := Lib.hid hr
        clear hr g3
        obtain ⟨hn1, hn2⟩ := wi_iff.1 g1
        go_enter Try.func107, Try.ntmps107
        go_wp2_with (go_at_call 69; refine (HW.out _ _ _ _).mono ?_; rintro e w' ⟨rfl, rfl⟩)
        go_loop [32] (fun ii => ∃ i : Nat, i ≤ a.next.length ∧ ii = .int .i64 i ∧ (a.next.take i).all (rowOk a.accept.length) = true) (fun ii => a.next.length - (intOf ii).toNat)
        case atStart => exact ⟨0, Nat.zero_le _, rfl, rfl⟩
        case round =>
          obtain ⟨i, hi, rfl, hall⟩ := hrel
          have HA := Lib.hid hall
          clear hall
          by_cases hlt : i < a.next.length
          · obtain ⟨u, hu⟩ : ∃ u, us[i]? = some u := ⟨_, List.getElem?_eq_getElem (by have := HU.out; omega)⟩
            obtain ⟨b, o, rfl, -, hb1, hc⟩ := hx2 i u hu
            have hxi : a.next[i]? = some a.next[i] := List.getElem?_eq_getElem hlt
            have hvi := hrows i u _ hu hxi
            generalize a.next[i] = row at hvi hxi
            have c0 := hc 0 _ rfl
            simp only [Nat.mul_one, Nat.add_zero] at c0
            obtain ⟨A3, c3, rfl, hl3, hm3, hx3⟩ := hvi
            unfold maxLen at hm3
            have HX := Lib.hid hxi
            clear hc hx2 hu hxi hrows
            go_wp2_with fail
            go_loop [38] (fun jj => ∃ j : Nat, j ≤ row.length ∧ jj = .int .i64 j ∧ (row.take j).all (fun t => wi t (-1) ((a.accept.length : Int) - 1)) = true) (fun jj => row.length - (intOf jj).toNat)
            case atStart => exact ⟨0, Nat.zero_le _, rfl, rfl⟩
            case round =>
              obtain ⟨j, hj, rfl, hall2⟩ := hrel
              have HB := Lib.hid hall2
              clear hall2
              by_cases hlt2 : j < row.length
              · have hxj : row[j]? = some row[j] := List.getElem?_eq_getElem hlt2
                obtain ⟨b2, o2, rfl, -, hb2, hc2⟩ := hx3 j _ hxj
                generalize row[j] = t at hc2 hxj
                have d0 := hc2 0 _ rfl
                simp only [Nat.mul_one, Nat.add_zero] at d0
                have HXJ := Lib.hid hxj
                clear hc2 hx3 hxj
                by_cases g4 : wi t (-1) ((a.accept.length : Int) - 1) = true
                · go_wp2_with (go_at_call 69; refine (HW.out _ _ _ _).mono ?_; rintro e w' ⟨rfl, rfl⟩)
                  go_round
                  case rel => exact ⟨j + 1, by omega, by go_num, all_take_succ HXJ.out HB.out g4⟩
                  case measure => simp [intOf]; omega
                · simp only [Bool.not_eq_true] at g4
                  have hfin : auOk a = false := by
                    rw [HR.out]
                    refine all_false_of HX.out ?_
                    rw [rowOk, all_false_of HXJ.out g4]
                    rfl
                  have HF := Lib.hid hfin
                  clear hfin
                  go_wp2_with (go_at_call 69; refine (HW.out _ _ _ _).mono ?_; rintro e w' ⟨rfl, rfl⟩)
                  go_ret
                  exact ⟨by rw [HF.out]; rfl, hb0⟩
              · obtain rfl : j = row.length := by omega
                have hall3 : row.all (fun t => wi t (-1) ((a.accept.length : Int) - 1)) = true := by have := HB.out; rwa [List.take_length] at this
                have H3 := Lib.hid hall3
                clear hall3
                clear hx3
                by_cases g9 : row.length = 9
                · have g9' : ((row.length : Int) != 9) = false := by simp; omega
                  have hok : rowOk a.accept.length row = true := by rw [rowOk, H3.out, g9]; rfl
                  have HO := Lib.hid hok
                  clear hok g9
                  go_wp2_with fail
                  go_round
                  case rel => exact ⟨i + 1, by omega, by go_num, all_take_succ HX.out HA.out HO.out⟩
                  case measure => simp [intOf]; omega
                · have g9' : ((row.length : Int) != 9) = true := by simp; omega
                  have hfin : auOk a = false := by
                    rw [HR.out]
                    refine all_false_of HX.out ?_
                    rw [rowOk]
                    simp [g9]
                  have HF := Lib.hid hfin
                  clear hfin g9
                  go_wp2_with fail
                  go_ret
                  exact ⟨by rw [HF.out]; rfl, hb0⟩
          · obtain rfl : i = a.next.length := by omega
            have hfin : auOk a = true := by rw [HR.out]; have := HA.out; rwa [List.take_length] at this
            have HF := Lib.hid hfin
            clear hfin hx2 hrows
            go_wp2_with fail
            go_ret
            exact ⟨by rw [HF.out]; rfl, hb0⟩
      · have g3' : ((a.next.length : Int) != (a.accept.length : Int)) = true := by simp; omega
        have hr : auOk a = false := by simp [auOk, g3]
        have HR := Lib.hid hr
        clear hr g3
        go_enter Try.func107, Try.ntmps107
        go_wp2_with (go_at_call 69; refine (HW.out _ _ _ _).mono ?_; rintro e w' ⟨rfl, rfl⟩)
        go_ret
        exact ⟨by rw [HR.out]; rfl, hb0⟩
    · simp only [Bool.not_eq_true] at g2
      have hr : auOk a = false := by simp [auOk, g2]
      have HR := Lib.hid hr
      clear hr
      go_enter Try.func107, Try.ntmps107
      go_wp2_with (go_at_call 69; refine (HW.out _ _ _ _).mono ?_; rintro e w' ⟨rfl, rfl⟩)
      go_ret
      exact ⟨by rw [HR.out]; rfl, hb0⟩
  · simp only [Bool.not_eq_true] at g1
    have hr : auOk a = false := by simp [auOk, g1]
    have HR := Lib.hid hr
    clear hr
    go_enter Try.func107, Try.ntmps107
    go_wp2_with (go_at_call 69; refine (HW.out _ _ _ _).mono ?_; rintro e w' ⟨rfl, rfl⟩)
    go_ret
    exact ⟨by rw [HR.out]; rfl, hb0⟩

set_option maxHeartbeats 1000000 in
theorem statesOk_any (v lv : Value) (a : Au) (ss : List Int) (w : World) (hv : AuV 0 w.heap.size w v a) (hl : SlE w cI 1 lv ss) :
    Calls Try.prog 61 #[v, lv] w fun e w' => e = .returned (.bool (ss.all (fun s => wi s 0 ((a.accept.length : Int) - 1)) && auOk a)) ∧ Below w.heap.size w w' := by
  have hv0 := hv
  obtain ⟨ac, nx, rfl, ⟨A1, c1, rfl, hl1, hm1, -⟩, -⟩ := hv
  obtain ⟨A2, c2, rfl, hl2, hm2, hx2⟩ := hl
  unfold maxLen at hm1 hm2
  have hb0 : Below w.heap.size w (w.alloc (.cells #[.int .i64 a.start, .slice A1 a.accept.length c1, nx] 29)) := (Below.refl _ _).alloc (Nat.le_refl _) _
  have HW := Lib.hid within_any
  go_enter Try.func61, Try.ntmps61
  go_wp2_with fail
  go_loop [9] (fun ii => ∃ i : Nat, i ≤ ss.length ∧ ii = .int .i64 i ∧ (ss.take i).all (fun s => wi s 0 ((a.accept.length : Int) - 1)) = true) (fun ii => ss.length - (intOf ii).toNat)
  case atStart => exact ⟨0, Nat.zero_le _, rfl, rfl⟩
  case round =>
    obtain ⟨i, hi, rfl, hall⟩ := hrel
    have HA := Lib.hid hall
    clear hall
    by_cases hlt : i < ss.length
    · have hxi : ss[i]? = some ss[i] := List.getElem?_eq_getElem hlt
      obtain ⟨b, o, rfl, -, hb1, hc⟩ := hx2 i _ hxi
      generalize ss[i] = s at hc hxi
      have c0 := hc 0 _ rfl
      simp only [Nat.mul_one, Nat.add_zero] at c0
      have HX := Lib.hid hxi
      clear hc hx2 hxi
      by_cases g4 : wi s 0 ((a.accept.length : Int) - 1) = true
      · go_wp2_with (go_at_call 69; refine (HW.out _ _ _ _).mono ?_; rintro e w' ⟨rfl, rfl⟩)
        go_round
        case rel => exact ⟨i + 1, by omega, by go_num, all_take_succ HX.out HA.out g4⟩
        case measure => simp [intOf]; omega
      · simp only [Bool.not_eq_true] at g4
        have hfin : ss.all (fun s => wi s 0 ((a.accept.length : Int) - 1)) = false := all_false_of HX.out g4
        have HF := Lib.hid hfin
        clear hfin
        go_wp2_with (go_at_call 69; refine (HW.out _ _ _ _).mono ?_; rintro e w' ⟨rfl, rfl⟩)
        go_ret
        exact ⟨by rw [HF.out]; rfl, hb0⟩
    · obtain rfl : i = ss.length := by omega
      have hfin : ss.all (fun s => wi s 0 ((a.accept.length : Int) - 1)) = true := by have := HA.out; rwa [List.take_length] at this
      have HF := Lib.hid hfin
      clear hfin hx2
      go_wp2_with fail
      refine (implValidAutomaton _ a _ (hv0.keep hb0)).mono ?_
      rintro e w1 ⟨rfl, hb1⟩
      go_wp2_with fail
      go_ret
      exact ⟨by rw [HF.out]; rfl, below_trans hb0 hb1⟩
end Go.Proofs.Ytgdgelkeflihpaa

/- The program's sets of states: move, closure, members, after, acceptsAt. -/
namespace Go.Proofs.Ytgdgelkeflihpaa
set_option linter.unusedVariables false
set_option linter.unusedSimpArgs false
open Go.ChangeShapes Go.WideShapes Go.ChangeAt Go.RowKit
attribute [local go_sem] ext_cell ext_frozen ext_lt ext_lt1 ext_lt2 ext_lt3 ltn2 ltn3 ltn13 lts1 lts2 lts3

theorem isLetter_any (n : Int) (w : World) : Calls Try.prog 140 #[.int .i64 n] w fun e w' => e = .returned (.bool (wi n 0 8)) ∧ w' = w := by
  have HW := Lib.hid within_any
  go_enter Try.func140, Try.ntmps140
  go_wp2_with (go_at_call 69; refine (HW.out _ _ _ _).mono ?_; rintro e w' ⟨rfl, rfl⟩)
  go_ret
  exact ⟨rfl, rfl⟩

def mvI (a : Au) (s l : Int) : Int := if 0 ≤ s ∧ wi l 0 8 = true then mv a s.toNat l.toNat else -1
theorem mvI_in {a : Au} {s l : Nat} (hl : l < 9) : mvI a s l = mv a s l := by
  rw [mvI, if_pos ⟨by omega, wi_iff.2 ⟨by omega, by omega⟩⟩]; simp
set_option maxHeartbeats 1000000 in
theorem move_any (v : Value) (a : Au) (s l : Int) (w : World) (hv : AuV 0 w.heap.size w v a) (hok : auOk a = true) (hs : s < (a.accept.length : Int)) :
    Calls Try.prog 143 #[v, .int .i64 s, .int .i64 l] w fun e w' => e = .returned (.int .i64 (mvI a s l)) ∧ Below w.heap.size w w' := by
  obtain ⟨A1, c1, A2, c2, rfl, hl1, hm1, hl2, hm2, hC⟩ := hv.form hok
  have HL := Lib.hid isLetter_any
  have hb0 : Below w.heap.size w (w.alloc (.cells #[.int .i64 a.start, .slice A1 a.accept.length c1, .slice A2 a.accept.length c2] 29)) := (Below.refl _ _).alloc (Nat.le_refl _) _
  have HOK := Lib.hid hok
  clear hok hv
  by_cases h0 : s < 0
  · have hfin : mvI a s l = -1 := by rw [mvI, if_neg (by omega)]
    have HF := Lib.hid hfin
    clear hfin
    go_enter Try.func143, Try.ntmps143
    go_wp2_with fail
    go_ret
    exact ⟨by rw [HF.out]; rfl, hb0⟩
  · obtain ⟨s, rfl⟩ := Int.eq_ofNat_of_zero_le (show 0 ≤ s by omega)
    cases hl : wi l 0 8 with
    | false =>
      have hfin : mvI a s l = -1 := by rw [mvI, if_neg (by simp [hl])]
      have HF := Lib.hid hfin
      clear hfin
      go_enter Try.func143, Try.ntmps143
      go_wp2_with (go_at_call 140; refine (HL.out _ _).mono ?_; rintro e w' ⟨rfl, rfl⟩)
      go_ret
      exact ⟨by rw [HF.out]; rfl, hb0⟩
    | true =>
      have hl0 := wi_iff.1 hl
      obtain ⟨l, rfl⟩ := Int.eq_ofNat_of_zero_le hl0.1
      obtain ⟨b2, o2, b3, o3, c3, rfl, hb2, d2, hl3, hm3, hb3, hc3⟩ := hC.row s (by omega)
      have hl9 : l < 9 := by omega
      have d3 := hc3 l hl9
      have HF := Lib.hid (mvI_in (a := a) (s := s) (l := l) (by omega))
      clear hc3 hC hl0
      go_enter Try.func143, Try.ntmps143
      go_wp2_with (go_at_call 140; refine (HL.out _ _).mono ?_; rintro e w' ⟨rfl, rfl⟩)
      go_ret
      exact ⟨by rw [HF.out]; rfl, hb0⟩

set_option maxHeartbeats 1000000 in
theorem closure_any (v : Value) (a : Au) (s x : Nat) (w : World) (hv : AuV 0 w.heap.size w v a) (hok : auOk a = true) (hs : s < a.accept.length) (hx : x ≤ 2) :
    Calls Try.prog 151 #[v, .int .i64 (s : Int), .int .i64 (x : Int)] w fun e w' => e = .returned (.int .i64 (cls a x s : Int)) ∧ Below w.heap.size w w' := by
  have hv0 := hv
  obtain ⟨A1, c1, A2, c2, rfl, -⟩ := hv.form hok
  clear hv
  have hn12 : a.accept.length ≤ 12 := (auOk_iff.1 hok).1.2
  have hb0 : Below w.heap.size w (w.alloc (.cells #[.int .i64 a.start, .slice A1 a.accept.length c1, .slice A2 a.accept.length c2] 29)) := (Below.refl _ _).alloc (Nat.le_refl _) _
  have HV := Lib.hid hv0
  have HOK := Lib.hid hok
  clear hok
  obtain ⟨R, hR⟩ : ∃ R, R = cls a x s := ⟨_, rfl⟩
  rw [← hR]
  have HR := Lib.hid hR
  clear hR hv0
  go_enter Try.func151, Try.ntmps151
  go_wp2_with fail
  go_loopw [7, 8] (fun st ss wr => ∃ (f m : Nat) (s : Int) (u : World), st = .int .i64 (m : Int) ∧ ss = .int .i64 s ∧ clsF a (6 + x) f s m = R ∧ f + (mem 12 m).length = 13 ∧ m < 2 ^ a.accept.length ∧ s < (a.accept.length : Int) ∧ wr = ext (w.alloc (.cells #[.int .i64 a.start, .slice A1 a.accept.length c1, .slice A2 a.accept.length c2] 29)) u) (fun st _ _ => 13 - (mem 12 (intOf st).toNat).length)
  case atStart => exact ⟨13, 0, s, _, rfl, rfl, HR.out.symm, by simp [mem], Nat.two_pow_pos _, by omega, ext_self _⟩
  case round =>
    obtain ⟨f, m, s, u, rfl, rfl, hcl, hf, hm, hs, rfl⟩ := hrel
    have hm2 := lt12 HOK.out hm
    have hml := mem_len 12 m
    have HC := Lib.hid hcl
    have HFC := Lib.hid hf
    have hbw := below_trans hb0 (ext_below _ u)
    clear hcl hf
    by_cases h0 : 0 ≤ s
    · obtain ⟨s, rfl⟩ := Int.eq_ofNat_of_zero_le h0
      have hs12 : s < 12 := by omega
      have e1 := shl_bit (s := s) (by omega)
      have e2 := or_ins (m := m) (s := s) (by omega) (by omega)
      cases hb : m.testBit s with
      | true =>
        have e3 := bit_on (by omega) (by omega) hb
        have hfin : m = R := by rw [← HC.out]; exact (clsF_stop (.inr (by simpa using hb))).symm
        have HF := Lib.hid hfin
        clear hfin hb h0
        go_wp2_with fail
        go_ret
        exact ⟨by rw [HF.out]; rfl, hbw⟩
      | false =>
        have e3 := bit_off (by omega) (by omega) hb
        have HB := Lib.hid hb
        have hmv := mv_lt HOK.out s (6 + x)
        clear hb h0
        go_wp2_with fail
        refine (move_any _ a (s : Int) _ _ (HV.out.keep hbw) HOK.out (by omega)).mono ?_
        rintro e w1 ⟨rfl, hb1⟩
        obtain ⟨u1, rfl⟩ := ext_of (below_trans (ext_below _ u) hb1)
        rw [show (6 : Int) + (x : Int) = ((6 + x : Nat) : Int) by omega, mvI_in (by omega)]
        go_wp2_with fail
        go_roundw
        case rel =>
          have h1 := cnt_or (n := 12) (m := m) hs12 HB.out
          have h2 := HFC.out
          obtain ⟨f, rfl⟩ : ∃ f', f = f' + 1 := ⟨f - 1, by omega⟩
          refine ⟨f, ins m s, _, _, rfl, rfl, by rw [← HC.out]; exact (clsF_go HB.out).symm, by omega, ins_lt hm (by omega), by omega, rfl⟩
        case measure =>
          have h1 := cnt_or (n := 12) (m := m) hs12 HB.out
          simp [intOf]; omega
    · have hfin : m = R := by rw [← HC.out]; exact (clsF_stop (.inl (by omega))).symm
      have h0' : decide (s ≥ 0) = false := by simp; omega
      have HF := Lib.hid hfin
      clear hfin
      go_wp2_with fail
      go_ret
      exact ⟨by rw [HF.out]; rfl, hbw⟩

set_option maxHeartbeats 1000000 in
theorem members_any (m : Nat) (w : World) (hm : m < 4096) :
    Calls Try.prog 150 #[.int .i64 (m : Int)] w fun e w' => ∃ v', e = .returned v' ∧ Own w.heap.size w'.heap.size w' 3 cN 1 v' (mem 12 m) ∧ Below w.heap.size w w' := by
  obtain ⟨R, hR⟩ : ∃ R, R = mem 12 m := ⟨_, rfl⟩
  rw [← hR]
  have HR := Lib.hid hR
  clear hR
  go_enter Try.func150, Try.ntmps150
  go_wp2_with fail
  go_loopw [3, 4] (fun out ii wr => ∃ i : Nat, i ≤ 12 ∧ ii = .int .i64 (i : Int) ∧ wr.ownsRow w.heap.size 3 1 out (mem i m).length ((mem i m).flatMap cN) ∧ Below w.heap.size w wr) (fun _ ii _ => 12 - (intOf ii).toNat)
  case atStart => exact ⟨0, Nat.zero_le _, rfl, World.ownsRow_lit w #[] 0 (Nat.le_refl _) (by decide) rfl, (Below.refl _ _).alloc (Nat.le_refl _) _⟩
  case round =>
    obtain ⟨i, hi, rfl, hrow, hbel⟩ := hrel
    have HROW := Lib.hid hrow
    have hs := hbel.size
    have hml := mem_len i m
    clear hrow
    by_cases hlt : 2 ^ i ≤ m
    · have e1 := shr_on (by omega) hlt
      have hi12 : i < 12 := by
        rcases Nat.lt_or_ge i 12 with h | h
        · exact h
        · have : 2 ^ 12 ≤ 2 ^ i := Nat.pow_le_pow_right (by omega) h
          omega
      clear hlt
      cases hb : m.testBit i with
      | true =>
        have e3 := bit_on (by omega) (by omega) hb
        have HM := Lib.hid (mem_yes hb)
        clear hb
        go_wp2_with (at_builtin; (refine wpList_append1 cN elInt rfl _ _ rfl w.heap.size _ (mem i m) i _ 1 _ (by rfl) HROW.out (by rfl) rfl rfl rfl (cN_one _) (by omega) (by omega) hs ?_); rw [← HM.out]; intro v' w4 hrow' hb4 _ _)
        go_roundw
        case rel => exact ⟨i + 1, by omega, by go_num, hrow', hbel.trans hb4⟩
        case measure => simp [intOf]; omega
      | false =>
        have e3 := bit_off (by omega) (by omega) hb
        have HM := Lib.hid (mem_no hb)
        clear hb
        go_wp2_with fail
        go_roundw
        case rel => exact ⟨i + 1, by omega, by go_num, by rw [HM.out]; exact HROW.out, hbel⟩
        case measure => simp [intOf]; omega
    · have e1 := shr_off (i := i) (m := m) (by omega) (by omega)
      have hfin : R = mem i m := by rw [HR.out]; exact mem_stop (by omega) hi
      have HF := Lib.hid hfin
      clear hfin hlt
      go_wp2_with fail
      go_ret
      exact ⟨_, rfl, by rw [HF.out]; exact Own.of_row HROW.out rfl rfl, hbel⟩

set_option maxHeartbeats 2000000 in
theorem after_any (v : Value) (a : Au) (set x l : Nat) (w : World) (hv : AuV 0 w.heap.size w v a) (hok : auOk a = true) (hset : set < 2 ^ a.accept.length) (hx : x ≤ 2) (hl : l < 9) :
    Calls Try.prog 127 #[v, .int .i64 (set : Int), .int .i64 (x : Int), .int .i64 (l : Int)] w fun e w' => e = .returned (.int .i64 (aft a set x l : Int)) ∧ Below w.heap.size w w' := by
  have hv0 := hv
  obtain ⟨A1, c1, A2, c2, rfl, -⟩ := hv.form hok
  clear hv
  have hn12 : a.accept.length ≤ 12 := (auOk_iff.1 hok).1.2
  have hb0 : Below w.heap.size w (w.alloc (.cells #[.int .i64 a.start, .slice A1 a.accept.length c1, .slice A2 a.accept.length c2] 29)) := (Below.refl _ _).alloc (Nat.le_refl _) _
  have HV := Lib.hid hv0
  have HOK := Lib.hid hok
  have HSET := Lib.hid hset
  have h4096 := lt12 hok hset
  clear hok hv0 hset
  go_enter Try.func127, Try.ntmps127
  go_wp2_with fail
  refine (members_any set _ h4096).mono ?_
  rintro e w1 ⟨v1, rfl, ho, hb1⟩
  obtain ⟨A3, c3, rfl, hl3, hm3, hC3⟩ := ho.form cN_len
  have hml := mem_len 12 set
  have hb2 := below_trans hb0 hb1
  have HC3 := Lib.hid hC3
  have b0 := (Blk.new w _ _ w.heap.size rfl).keep hb1
  have x0 : w1.cell? ⟨w.heap.size, 0, none⟩ = some _ := b0.cell 0
  have x1 : w1.cell? ⟨w.heap.size, 1, none⟩ = some _ := b0.cell 1
  have x2 : w1.cell? ⟨w.heap.size, 2, none⟩ = some _ := b0.cell 2
  have l0 := b0.lt
  clear b0
  clear hb1 hb0 ho hC3
  go_wp2_with fail
  have hfl : ∀ i, ((mem 12 set).take i).foldl (aftS a x l) 0 < 2 ^ a.accept.length := fun i => foldl_inv (P := fun m => m < 2 ^ a.accept.length) (fun m s hm => aftS_lt HOK.out x l m s hm) _ _ (Nat.two_pow_pos _)
  have HFL := Lib.hid hfl
  clear hfl
  go_loopw [9, 18] (fun out ii wr => ∃ (i : Nat) (u : World), i ≤ (mem 12 set).length ∧ ii = .int .i64 (i : Int) ∧ out = .int .i64 (((mem 12 set).take i).foldl (aftS a x l) 0 : Nat) ∧ wr = ext w1 u) (fun _ ii _ => (mem 12 set).length - (intOf ii).toNat)
  case atStart => exact ⟨0, w1, Nat.zero_le _, rfl, rfl, ext_self _⟩
  case round =>
    obtain ⟨i, u, hi, rfl, rfl, rfl⟩ := hrel
    by_cases hlt : i < (mem 12 set).length
    · have hsi : (mem 12 set)[i]? = some (mem 12 set)[i] := List.getElem?_eq_getElem hlt
      have hsm := mem_mem.1 (List.getElem_mem hlt)
      generalize (mem 12 set)[i] = s at hsi hsm
      have hsn : s < a.accept.length := by
        rcases Nat.lt_or_ge s a.accept.length with h | h
        · exact h
        · have := Nat.testBit_lt_two_pow (Nat.lt_of_lt_of_le HSET.out (Nat.pow_le_pow_right (by omega) h))
          rw [hsm.2] at this; cases this
      obtain ⟨b3, o3, rfl, hb3, d3⟩ := HC3.out.nat hsi
      have HFT := Lib.hid (foldl_take (f := aftS a x l) hsi 0)
      have hbw := below_trans hb2 (ext_below w1 u)
      have hm0 := HFL.out i
      generalize ((mem 12 set).take i).foldl (aftS a x l) 0 = m0 at *
      clear hsi hsm
      go_wp2_with fail
      refine (closure_any _ a s x _ (HV.out.keep hbw) HOK.out hsn hx).mono ?_
      rintro e w2 ⟨rfl, hb5⟩
      obtain ⟨u2, rfl⟩ := ext_of (below_trans (ext_below w1 u) hb5)
      have hcl := cls_lt HOK.out x s hsn
      have hcl4 := lt12 HOK.out hcl
      go_wp2_with fail
      refine (members_any (cls a x s) _ hcl4).mono ?_
      rintro e w3 ⟨v4, rfl, ho4, hb6⟩
      obtain ⟨A4, c4, rfl, hl4, hm4, hC4⟩ := ho4.form cN_len
      have hml4 := mem_len 12 (cls a x s)
      have hb7 := below_trans (ext_below w1 u2) hb6
      have hb8 := below_trans hb2 hb7
      have x0 := bcell hb7 x0 l0
      have x1 := bcell hb7 x1 l0
      have x2 := bcell hb7 x2 l0
      have l0 := Nat.lt_of_lt_of_le l0 hb7.size
      have HC4 := Lib.hid hC4
      have HCL := Lib.hid hcl
      clear hb6 hb5 hbw ho4 hC4 hcl
      go_wp2_with fail
      go_loopw [9, 28] (fun out jj wr => ∃ (j : Nat) (u : World), j ≤ (mem 12 (cls a x s)).length ∧ jj = .int .i64 (j : Int) ∧ out = .int .i64 (((mem 12 (cls a x s)).take j).foldl (aft1 a l) m0 : Nat) ∧ wr = ext w3 u) (fun _ jj _ => (mem 12 (cls a x s)).length - (intOf jj).toNat)
      case atStart => exact ⟨0, w3, Nat.zero_le _, rfl, rfl, ext_self _⟩
      case round =>
        obtain ⟨j, u3, hj, rfl, rfl, rfl⟩ := hrel
        by_cases hlt2 : j < (mem 12 (cls a x s)).length
        · have hti : (mem 12 (cls a x s))[j]? = some (mem 12 (cls a x s))[j] := List.getElem?_eq_getElem hlt2
          have htm := mem_mem.1 (List.getElem_mem hlt2)
          generalize (mem 12 (cls a x s))[j] = t at hti htm
          have htn : t < a.accept.length := by
            rcases Nat.lt_or_ge t a.accept.length with h | h
            · exact h
            · have := Nat.testBit_lt_two_pow (Nat.lt_of_lt_of_le HCL.out (Nat.pow_le_pow_right (by omega) h))
              rw [htm.2] at this; cases this
          obtain ⟨b4, o4, rfl, hb4, d4⟩ := HC4.out.nat hti
          have HFT2 := Lib.hid (foldl_take (f := aft1 a l) hti m0)
          have hm1 : ((mem 12 (cls a x s)).take j).foldl (aft1 a l) m0 < 2 ^ a.accept.length := foldl_inv (P := fun m => m < 2 ^ a.accept.length) (fun m s hm => aft1_lt HOK.out l m s hm) _ _ hm0
          have hm14 := lt12 HOK.out hm1
          generalize ((mem 12 (cls a x s)).take j).foldl (aft1 a l) m0 = m1 at *
          have hbw := below_trans hb8 (ext_below w3 u3)
          have hmv := mv_lt HOK.out t l
          have HA := Lib.hid (show aft1 a l m1 t = if 0 ≤ mv a t l then ins m1 (mv a t l).toNat else m1 from rfl)
          clear hti htm hm0
          go_wp2_with fail
          refine (move_any _ a (t : Int) (l : Int) _ (HV.out.keep hbw) HOK.out (by omega)).mono ?_
          rintro e w4 ⟨rfl, hb9⟩
          obtain ⟨u4, rfl⟩ := ext_of (below_trans (ext_below w3 u3) hb9)
          rw [mvI_in hl]
          clear hb9
          by_cases h0 : 0 ≤ mv a t l
          · generalize mv a t l = z at *
            obtain ⟨z, rfl⟩ := Int.eq_ofNat_of_zero_le h0
            have e1 := shl_bit (s := z) (by omega)
            have e2 := or_ins (m := m1) (s := z) (by omega) (by omega)
            go_wp2_with fail
            go_roundw
            case rel => exact ⟨j + 1, u4, by omega, by go_num, by rw [HFT2.out, HA.out, if_pos h0]; simp, rfl⟩
            case measure => simp [intOf]; omega
          · have h0' : decide (mv a t l ≥ 0) = false := by simp; omega
            go_wp2_with fail
            go_roundw
            case rel => exact ⟨j + 1, u4, by omega, by go_num, by rw [HFT2.out, HA.out, if_neg (by omega)], rfl⟩
            case measure => simp [intOf]; omega
        · obtain rfl : j = (mem 12 (cls a x s)).length := by omega
          have HT := Lib.hid (show ((mem 12 (cls a x s)).take (mem 12 (cls a x s)).length).foldl (aft1 a l) m0 = aftS a x l m0 s by rw [List.take_length]; rfl)
          go_wp2_with fail
          go_roundw
          case rel =>
            obtain ⟨u5, hu5⟩ := ext_of (below_trans hb7 (ext_below w3 u3))
            exact ⟨i + 1, u5, by omega, by go_num, by rw [HFT.out, HT.out], hu5⟩
          case measure => simp [intOf]; omega
    · obtain rfl : i = (mem 12 set).length := by omega
      have HT := Lib.hid (show ((mem 12 set).take (mem 12 set).length).foldl (aftS a x l) 0 = aft a set x l by rw [List.take_length]; rfl)
      go_wp2_with fail
      go_ret
      exact ⟨by rw [HT.out]; rfl, below_trans hb2 (ext_below w1 u)⟩

theorem bit_in {n m t : Nat} (hm : m < 2 ^ n) (ht : m.testBit t = true) : t < n := by
  rcases Nat.lt_or_ge t n with h | h
  · exact h
  · have := Nat.testBit_lt_two_pow (Nat.lt_of_lt_of_le hm (Nat.pow_le_pow_right (by omega) h))
    rw [ht] at this; cases this
theorem any_take {α : Type} {p : α → Bool} {xs : List α} {i : Nat} {x : α} (h : xs[i]? = some x) : (xs.take (i + 1)).any p = ((xs.take i).any p || p x) := by
  rw [take_snoc h, List.any_append]; simp
theorem any_of_at {α : Type} {p : α → Bool} {xs : List α} {i : Nat} {x : α} (h : xs[i]? = some x) (hp : p x = true) : xs.any p = true := List.any_eq_true.2 ⟨x, List.mem_of_getElem? h, hp⟩
set_option maxHeartbeats 2000000 in
theorem acceptsAt_any (v : Value) (a : Au) (set x : Nat) (w : World) (hv : AuV 0 w.heap.size w v a) (hok : auOk a = true) (hset : set < 2 ^ a.accept.length) (hx : x ≤ 2) :
    Calls Try.prog 118 #[v, .int .i64 (set : Int), .int .i64 (x : Int)] w fun e w' => e = .returned (.bool (acc a set x)) ∧ Below w.heap.size w w' := by
  have hv0 := hv
  obtain ⟨A1, c1, A2, c2, rfl, hl1, hm1, -, -, hAC, -⟩ := hv.form hok
  clear hv
  have hn12 : a.accept.length ≤ 12 := (auOk_iff.1 hok).1.2
  have hb0 : Below w.heap.size w (w.alloc (.cells #[.int .i64 a.start, .slice A1 a.accept.length c1, .slice A2 a.accept.length c2] 29)) := (Below.refl _ _).alloc (Nat.le_refl _) _
  have HV := Lib.hid hv0
  have HOK := Lib.hid hok
  have HSET := Lib.hid hset
  have HAC := Lib.hid hAC
  have h4096 := lt12 hok hset
  clear hok hv0 hset hAC
  go_enter Try.func118, Try.ntmps118
  go_wp2_with fail
  refine (members_any set _ h4096).mono ?_
  rintro e w1 ⟨v1, rfl, ho, hb1⟩
  obtain ⟨A3, c3, rfl, hl3, hm3, hC3⟩ := ho.form cN_len
  have hml := mem_len 12 set
  have hb2 := below_trans hb0 hb1
  have HC3 := Lib.hid hC3
  have b0 := (Blk.new w _ _ w.heap.size rfl).keep hb1
  have x0 : w1.cell? ⟨w.heap.size, 0, none⟩ = some _ := b0.cell 0
  have x1 : w1.cell? ⟨w.heap.size, 1, none⟩ = some _ := b0.cell 1
  have x2 : w1.cell? ⟨w.heap.size, 2, none⟩ = some _ := b0.cell 2
  have l0 := b0.lt
  clear b0
  clear hb1 hb0 ho hC3
  go_wp2_with fail
  go_loopw [14] (fun ii wr => ∃ (i : Nat) (u : World), i ≤ (mem 12 set).length ∧ ii = .int .i64 (i : Int) ∧ ((mem 12 set).take i).any (accC a x) = false ∧ wr = ext w1 u) (fun ii _ => (mem 12 set).length - (intOf ii).toNat)
  case atStart => exact ⟨0, w1, Nat.zero_le _, rfl, rfl, ext_self _⟩
  case round =>
    obtain ⟨i, u, hi, rfl, hno, rfl⟩ := hrel
    have HNO := Lib.hid hno
    clear hno
    by_cases hlt : i < (mem 12 set).length
    · have hsi : (mem 12 set)[i]? = some (mem 12 set)[i] := List.getElem?_eq_getElem hlt
      have hsm := mem_mem.1 (List.getElem_mem hlt)
      generalize (mem 12 set)[i] = s at hsi hsm
      have hsn := bit_in HSET.out hsm.2
      obtain ⟨b3, o3, rfl, hb3, d3⟩ := HC3.out.nat hsi
      have hbw := below_trans hb2 (ext_below w1 u)
      have HSI := Lib.hid hsi
      clear hsi hsm
      go_wp2_with fail
      refine (closure_any _ a s x _ (HV.out.keep hbw) HOK.out hsn hx).mono ?_
      rintro e w2 ⟨rfl, hb5⟩
      obtain ⟨u2, rfl⟩ := ext_of (below_trans (ext_below w1 u) hb5)
      have hcl := cls_lt HOK.out x s hsn
      have hcl4 := lt12 HOK.out hcl
      go_wp2_with fail
      refine (members_any (cls a x s) _ hcl4).mono ?_
      rintro e w3 ⟨v4, rfl, ho4, hb6⟩
      obtain ⟨A4, c4, rfl, hl4, hm4, hC4⟩ := ho4.form cN_len
      have hml4 := mem_len 12 (cls a x s)
      have hb7 := below_trans (ext_below w1 u2) hb6
      have hb8 := below_trans hb2 hb7
      have x0 := bcell hb7 x0 l0
      have x1 := bcell hb7 x1 l0
      have x2 := bcell hb7 x2 l0
      have l0 := Nat.lt_of_lt_of_le l0 hb7.size
      have HC4 := Lib.hid hC4
      have HCL := Lib.hid hcl
      have HAC3 := Lib.hid (HAC.out.keep hb8)
      have HAE := Lib.hid (show accC a x s = (mem 12 (cls a x s)).any fun t => a.accept.getD t false from rfl)
      clear hb6 hb5 hbw ho4 hC4 hcl
      go_wp2_with fail
      go_loopw [24] (fun jj wr => ∃ (j : Nat) (u : World), j ≤ (mem 12 (cls a x s)).length ∧ jj = .int .i64 (j : Int) ∧ ((mem 12 (cls a x s)).take j).any (fun t => a.accept.getD t false) = false ∧ wr = ext w3 u) (fun jj _ => (mem 12 (cls a x s)).length - (intOf jj).toNat)
      case atStart => exact ⟨0, w3, Nat.zero_le _, rfl, rfl, ext_self _⟩
      case round =>
        obtain ⟨j, u3, hj, rfl, hno, rfl⟩ := hrel
        have HNJ := Lib.hid hno
        clear hno
        by_cases hlt2 : j < (mem 12 (cls a x s)).length
        · have hti : (mem 12 (cls a x s))[j]? = some (mem 12 (cls a x s))[j] := List.getElem?_eq_getElem hlt2
          have htm := mem_mem.1 (List.getElem_mem hlt2)
          generalize (mem 12 (cls a x s))[j] = t at hti htm
          have htn := bit_in HCL.out htm.2
          obtain ⟨b4, o4, rfl, hb4, d4⟩ := HC4.out.nat hti
          have hbw := below_trans hb8 (ext_below w3 u3)
          have hai : a.accept[t]? = some a.accept[t] := List.getElem?_eq_getElem htn
          obtain ⟨b5, o5, rfl, hb5, d5⟩ := HAC3.out.bool hai
          have hag : a.accept.getD t false = a.accept[t] := by simp [List.getD, hai]
          generalize a.accept[t] = b at *
          have HAG := Lib.hid hag
          have HTI := Lib.hid hti
          clear hti htm hai hag
          cases b with
          | true =>
            have hfin : acc a set x = true := any_of_at HSI.out (by rw [HAE.out]; exact any_of_at HTI.out HAG.out)
            have HF := Lib.hid hfin
            clear hfin
            go_wp2_with fail
            go_ret
            exact ⟨by rw [HF.out]; rfl, hbw⟩
          | false =>
            go_wp2_with fail
            go_roundw
            case rel => exact ⟨j + 1, u3, by omega, by go_num, by rw [any_take HTI.out, HNJ.out, HAG.out]; rfl, rfl⟩
            case measure => simp [intOf]; omega
        · obtain rfl : j = (mem 12 (cls a x s)).length := by omega
          have HT := Lib.hid (show accC a x s = false by have h := HNJ.out; rw [List.take_length] at h; rw [HAE.out]; exact h)
          go_wp2_with fail
          go_roundw
          case rel =>
            obtain ⟨u5, hu5⟩ := ext_of (below_trans hb7 (ext_below w3 u3))
            exact ⟨i + 1, u5, by omega, by go_num, by rw [any_take HSI.out, HNO.out, HT.out]; rfl, hu5⟩
          case measure => simp [intOf]; omega
    · obtain rfl : i = (mem 12 set).length := by omega
      have HT := Lib.hid (show acc a set x = false by have h := HNO.out; rw [List.take_length] at h; exact h)
      go_wp2_with fail
      go_ret
      exact ⟨by rw [HT.out]; rfl, below_trans hb2 (ext_below w1 u)⟩
end Go.Proofs.Ytgdgelkeflihpaa

/- The reference's LoopImages: a state behind a letter. -/
namespace Go.Proofs.Ytgdgelkeflihpaa
set_option linter.unusedVariables false
set_option linter.unusedSimpArgs false
open Go.ChangeShapes Go.WideShapes Go.ChangeAt Go.RowKit
attribute [local go_sem] ext_cell ext_frozen ext_lt ext_lt1 ext_lt2 ext_lt3 ltn2 ltn3 ltn13 lts1 lts2 lts3

/-- a state, or -1, behind a letter -/
def mvP (a : Au) (s : Int) (k : Nat) : Int := if s < 0 then -1 else mv a s.toNat k
set_option maxHeartbeats 1000000 in
theorem next12_any (v : Value) (a : Au) (s : Int) (l : Nat) (w : World) (hv : AuV 0 w.heap.size w v a) (hok : auOk a = true) (hs : s < (a.accept.length : Int)) (hl9 : l < 9) :
    Calls Try.prog 104 #[v, .int .i64 s, .int .i64 (l : Int)] w fun e w' => e = .returned (.int .i64 (mvP a s l)) ∧ Below w.heap.size w w' := by
  obtain ⟨A1, c1, A2, c2, rfl, hl1, hm1, hl2, hm2, hC⟩ := hv.form hok
  have hb0 : Below w.heap.size w (w.alloc (.cells #[.int .i64 a.start, .slice A1 a.accept.length c1, .slice A2 a.accept.length c2] 29)) := (Below.refl _ _).alloc (Nat.le_refl _) _
  have HOK := Lib.hid hok
  clear hok hv
  by_cases h0 : s < 0
  · have hfin : mvP a s l = -1 := by rw [mvP, if_pos h0]
    have HF := Lib.hid hfin
    clear hfin
    go_enter Try.func104, Try.ntmps104
    go_wp2_with fail
    go_ret
    exact ⟨by rw [HF.out]; rfl, hb0⟩
  · obtain ⟨s, rfl⟩ := Int.eq_ofNat_of_zero_le (show 0 ≤ s by omega)
    obtain ⟨b2, o2, b3, o3, c3, rfl, hb2, d2, hl3, hm3, hb3, hc3⟩ := hC.row s (by omega)
    have d3 := hc3 l hl9
    have hfin : mvP a (s : Int) l = mv a s l := by rw [mvP, if_neg h0]; simp
    have HF := Lib.hid hfin
    clear hc3 hC hfin
    go_enter Try.func104, Try.ntmps104
    go_wp2_with fail
    go_ret
    exact ⟨by rw [HF.out]; rfl, hb0⟩
/-- a row of l10Node: two states, whether they part, whence and by what letter -/
structure Nd where
  a : Int
  b : Int
  ap : Bool
  fr : Int
  by' : Int
def cNd (d : Nd) : List Value := [.int .i64 d.a, .int .i64 d.b, .bool d.ap, .int .i64 d.fr, .int .i64 d.by']
def alike (d x : Nd) : Bool := (d.a == x.a) && (d.b == x.b) && (d.ap == x.ap)
def hasN (l : List Nd) (x : Nd) : Bool := l.any fun d => alike d x
theorem cNd_len (d : Nd) : (cNd d).length = 5 := rfl
theorem hasN_hit {l : List Nd} {x d : Nd} {i : Nat} (h : l[i]? = some d) (hd : alike d x = true) : hasN l x = true :=
  List.any_eq_true.2 ⟨d, List.mem_of_getElem? h, hd⟩
theorem hasN_miss {l : List Nd} {x : Nd} (h : ∀ j d, j < l.length → l[j]? = some d → alike d x = false) : hasN l x = false := by
  rw [hasN, List.any_eq_false]
  intro d hd
  obtain ⟨j, hj, rfl⟩ := List.getElem_of_mem hd
  rw [h j _ hj (List.getElem?_eq_getElem hj)]
  exact Bool.false_ne_true
set_option maxHeartbeats 2000000 in
theorem has_any (v : Value) (l : List Nd) (x : Nd) (w : World) (hv : SlE w cNd 5 v l) :
    Calls Try.prog 105 #[v, .agg #[.int .i64 x.a, .int .i64 x.b, .bool x.ap, .int .i64 x.fr, .int .i64 x.by']] w fun e w' => e = .returned (.bool (hasN l x)) ∧ Below w.heap.size w w' := by
  obtain ⟨A, c, rfl, hl, hm, hC⟩ := SlE.form hv
  have HC := Lib.hid hC
  obtain ⟨R, hR⟩ : ∃ R, R = hasN l x := ⟨_, rfl⟩
  rw [← hR]
  have HR := Lib.hid hR
  obtain ⟨xa, hxa⟩ : ∃ q, q = x.a := ⟨_, rfl⟩
  obtain ⟨xb, hxb⟩ : ∃ q, q = x.b := ⟨_, rfl⟩
  obtain ⟨xp, hxp⟩ : ∃ q, q = x.ap := ⟨_, rfl⟩
  obtain ⟨xf, hxf⟩ : ∃ q, q = x.fr := ⟨_, rfl⟩
  obtain ⟨xy, hxy⟩ : ∃ q, q = x.by' := ⟨_, rfl⟩
  rw [← hxa, ← hxb, ← hxp, ← hxf, ← hxy]
  have HXX := Lib.hid (And.intro hxa (And.intro hxb hxp))
  clear hv hC hR hxa hxb hxp hxf hxy
  have hb0 : Below w.heap.size w (w.alloc (.cells #[.int .i64 xa, .int .i64 xb, .bool xp, .int .i64 xf, .int .i64 xy] 132)) := (Below.refl _ _).alloc (Nat.le_refl _) _
  go_enter Try.func105, Try.ntmps105
  go_wp2_with fail
  obtain ⟨W0, hW0⟩ : ∃ W0, W0 = w.alloc (.cells #[.int .i64 xa, .int .i64 xb, .bool xp, .int .i64 xf, .int .i64 xy] 132) := ⟨_, rfl⟩
  rw [← hW0] at hb0 ⊢
  have x0 : W0.cell? ⟨w.heap.size, 0, none⟩ = some (.int .i64 xa) := by rw [hW0]; simp
  have x1 : W0.cell? ⟨w.heap.size, 1, none⟩ = some (.int .i64 xb) := by rw [hW0]; simp
  have x2 : W0.cell? ⟨w.heap.size, 2, none⟩ = some (.bool xp) := by rw [hW0]; simp
  have l00 : w.heap.size < W0.heap.size := by rw [hW0]; simp
  clear hW0
  have hC0 := HC.out.keep hb0
  have HC0 := Lib.hid hC0
  clear hC0
  go_loopw [5] (fun ii wr => ∃ (i : Nat) (u : World), i ≤ l.length ∧ ii = .int .i64 (i : Int) ∧ (∀ j d, j < i → l[j]? = some d → alike d x = false) ∧ wr = ext W0 u) (fun ii _ => l.length - (intOf ii).toNat)
  case atStart => exact ⟨0, W0, Nat.zero_le _, rfl, (fun j d hj => by omega), ext_self _⟩
  case round =>
    obtain ⟨i, u, hi, rfl, hno, rfl⟩ := hrel
    have HNO := Lib.hid hno
    clear hno
    have hbE := below_trans hb0 (ext_below W0 u)
    by_cases hlt : i < l.length
    · obtain ⟨d, hd⟩ : ∃ d, l[i]? = some d := ⟨_, List.getElem?_eq_getElem hlt⟩
      obtain ⟨b, o, rfl, hb, hc⟩ := HC0.out.at_ i d hd
      have d0 := hc 0 _ rfl
      have d1 := hc 1 _ rfl
      have d2 := hc 2 _ rfl
      obtain ⟨da, hda⟩ : ∃ q, q = d.a := ⟨_, rfl⟩
      obtain ⟨db, hdb⟩ : ∃ q, q = d.b := ⟨_, rfl⟩
      obtain ⟨dp, hdp⟩ : ∃ q, q = d.ap := ⟨_, rfl⟩
      rw [← hda] at d0
      rw [← hdb] at d1
      rw [← hdp] at d2
      rw [Nat.add_zero] at d0
      have HAL := Lib.hid (show alike d x = ((da == xa) && (db == xb) && (dp == xp)) by rw [alike, hda, hdb, hdp, HXX.out.1, HXX.out.2.1, HXX.out.2.2])
      have HD := Lib.hid hd
      have hii : (i : Int) < (l.length : Int) := by omega
      clear hc hd hda hdb hdp
      cases k1 : (da == xa) with
      | false =>
        have hmiss : ∀ j d, j < i + 1 → l[j]? = some d → alike d x = false := fun j d' hj hd' => by
          rcases Nat.lt_or_ge j i with h | h
          · exact HNO.out j d' h hd'
          · obtain rfl : j = i := (by omega)
            rw [HD.out] at hd'
            injection hd' with hd'
            rw [← hd', HAL.out, k1]
            simp
        have HM := Lib.hid hmiss
        clear hmiss
        go_wp2_with fail
        refine wp_region_ext_lit (by kernel_rfl) (by kernel_rfl) ?_
        repeat (go_big_quiet_step (fail))
        refine wpQuiet_nil ?_
        intro _ hw'
        obtain ⟨u3, hw''⟩ := hw'
        subst hw''
        obtain ⟨u4, hu4⟩ := ext_of (below_trans (ext_below W0 u) (ext_below (ext W0 u) u3))
        rw [hu4]
        go_wp2_with fail
        go_roundw
        case rel => exact ⟨i + 1, u4, by omega, by go_num, HM.out, rfl⟩
        case measure => simp [intOf]; omega
      | true =>
        cases k2 : (db == xb) with
        | false =>
          have hmiss : ∀ j d, j < i + 1 → l[j]? = some d → alike d x = false := fun j d' hj hd' => by
            rcases Nat.lt_or_ge j i with h | h
            · exact HNO.out j d' h hd'
            · obtain rfl : j = i := (by omega)
              rw [HD.out] at hd'
              injection hd' with hd'
              rw [← hd', HAL.out, k1, k2]
              simp
          have HM := Lib.hid hmiss
          clear hmiss
          go_wp2_with fail
          refine wp_region_ext_lit (by kernel_rfl) (by kernel_rfl) ?_
          repeat (go_big_quiet_step (fail))
          refine wpQuiet_nil ?_
          intro _ hw'
          obtain ⟨u3, hw''⟩ := hw'
          subst hw''
          obtain ⟨u4, hu4⟩ := ext_of (below_trans (ext_below W0 u) (ext_below (ext W0 u) u3))
          rw [hu4]
          go_wp2_with fail
          go_roundw
          case rel => exact ⟨i + 1, u4, by omega, by go_num, HM.out, rfl⟩
          case measure => simp [intOf]; omega
        | true =>
          cases k3 : (dp == xp) with
          | false =>
            have hmiss : ∀ j d, j < i + 1 → l[j]? = some d → alike d x = false := fun j d' hj hd' => by
              rcases Nat.lt_or_ge j i with h | h
              · exact HNO.out j d' h hd'
              · obtain rfl : j = i := (by omega)
                rw [HD.out] at hd'
                injection hd' with hd'
                rw [← hd', HAL.out, k1, k2, k3]
                simp
            have HM := Lib.hid hmiss
            clear hmiss
            go_wp2_with fail
            refine wp_region_ext_lit (by kernel_rfl) (by kernel_rfl) ?_
            repeat (go_big_quiet_step (fail))
            refine wpQuiet_nil ?_
            intro _ hw'
            obtain ⟨u3, hw''⟩ := hw'
            subst hw''
            obtain ⟨u4, hu4⟩ := ext_of (below_trans (ext_below W0 u) (ext_below (ext W0 u) u3))
            rw [hu4]
            go_wp2_with fail
            go_roundw
            case rel => exact ⟨i + 1, u4, by omega, by go_num, HM.out, rfl⟩
            case measure => simp [intOf]; omega
          | true =>
            have hfin : R = true := by rw [HR.out]; exact hasN_hit HD.out (by rw [HAL.out, k1, k2, k3]; rfl)
            subst hfin
            clear HR
            go_wp2_with fail
            refine wp_region_ext_lit (by kernel_rfl) (by kernel_rfl) ?_
            repeat (go_big_quiet_step (fail))
            refine wpQuiet_nil ?_
            intro _ hw'
            obtain ⟨u3, hw''⟩ := hw'
            subst hw''
            go_wp2_with fail
            go_ret
            exact ⟨rfl, below_trans hbE (ext_below _ _)⟩
    · obtain rfl : i = l.length := by omega
      have hfin : R = false := by
        rw [HR.out]
        exact hasN_miss HNO.out
      subst hfin
      clear HR
      go_wp2_with fail
      go_ret
      exact ⟨rfl, hbE⟩
end Go.Proofs.Ytgdgelkeflihpaa

/- The program's together: two automata behind a letter. -/
namespace Go.Proofs.Ytgdgelkeflihpaa
set_option linter.unusedVariables false
set_option linter.unusedSimpArgs false
open Go.ChangeShapes Go.WideShapes Go.ChangeAt Go.RowKit
attribute [local go_sem] ext_cell ext_frozen ext_lt ext_lt1 ext_lt2 ext_lt3 ltn2 ltn3 ltn13 lts1 lts2 lts3

theorem mvI_mvP {a : Au} {s : Int} {l : Nat} (hl : l < 9) : mvI a s l = mvP a s l := by
  unfold mvP
  by_cases h : s < 0
  · rw [if_pos h, mvI, if_neg (by omega)]
  · obtain ⟨n, rfl⟩ := Int.eq_ofNat_of_zero_le (show 0 ≤ s by omega)
    rw [if_neg h, mvI_in hl]; simp
theorem together_any (v1 v2 s1 v3 v4 s2 : Value) (w : World) :
    Calls Try.prog 108 #[.agg #[s1, v1, v2], .agg #[s2, v3, v4]] w fun e w' => e = .returned (.func (Fn.func 142) #[] #[.pointer (some ⟨w.heap.size, 0, none⟩), .pointer (some ⟨w.heap.size + 1, 0, none⟩)]) ∧
      w' = (w.alloc (.cells #[s1, v1, v2] 29)).alloc (.cells #[s2, v3, v4] 29) := by
  go_enter Try.func108, Try.ntmps108
  go_wp2_with fail
  go_ret
  exact ⟨rfl, rfl⟩
set_option maxHeartbeats 1000000 in
theorem together1_any (b0 b1 : Nat) (A1 A2 : Option Addr) (c1 c2 : Nat) (a : Au) (x y : Int) (l : Nat) (w : World) (hok : auOk a = true)
    (hv : AuV 0 w.heap.size w (.agg #[.int .i64 a.start, .slice A1 a.accept.length c1, .slice A2 a.accept.length c2]) a)
    (h0 : b0 < w.heap.size) (h1 : b1 < w.heap.size)
    (x0 : w.cell? ⟨b0, 0, none⟩ = some (.int .i64 a.start)) (x1 : w.cell? ⟨b0, 1, none⟩ = some (.slice A1 a.accept.length c1)) (x2 : w.cell? ⟨b0, 2, none⟩ = some (.slice A2 a.accept.length c2))
    (y0 : w.cell? ⟨b1, 0, none⟩ = some (.int .i64 a.start)) (y1 : w.cell? ⟨b1, 1, none⟩ = some (.slice A1 a.accept.length c1)) (y2 : w.cell? ⟨b1, 2, none⟩ = some (.slice A2 a.accept.length c2))
    (hx : x < (a.accept.length : Int)) (hy : y < (a.accept.length : Int)) (hl : l < 9) :
    Calls Try.prog 142 #[.agg #[.int .i64 x, .int .i64 y], .int .i64 (l : Int), .pointer (some ⟨b0, 0, none⟩), .pointer (some ⟨b1, 0, none⟩)] w fun e w' => e = .returned (.agg #[.int .i64 (mvP a x l), .int .i64 (mvP a y l)]) ∧ Below w.heap.size w w' := by
  have HV := Lib.hid hv
  have HOK := Lib.hid hok
  have HX := Lib.hid hx
  have HY := Lib.hid hy
  rw [← mvI_mvP hl, ← mvI_mvP hl]
  have hb1 : b0 < w.heap.size + 1 := by omega
  have hb2 : b0 < w.heap.size + 1 + 1 := by omega
  have hb3 : b1 < w.heap.size + 1 := by omega
  have hb4 : b1 < w.heap.size + 1 + 1 := by omega
  clear hv hok
  go_enter Try.func142, Try.ntmps142
  go_wp2_with fail
  refine wp_region_ext_tail 11 (by kernel_rfl) (by kernel_rfl) ?_
  simp only [List.take_succ_cons, List.take_zero]
  repeat (go_big_quiet_step ((go_at_call 143; exact Calls.ext_of (move_any _ a _ _ _ (HV.out.keep (by repeat (first | exact Below.refl _ _ | assumption | refine Below.alloc ?_ (by simp <;> omega) _ | refine Below.drew ?_ | refine below_ext ?_ (by simp <;> omega) _ | exact ext_below _ _))) HOK.out (by assumption)))))
  refine wpQuiet_nil ?_
  intro _ hw'
  obtain ⟨u2, hw''⟩ := hw'
  subst hw''
  simp only [List.drop_succ_cons, List.drop_zero]
  go_wp2_with fail
  refine bodyPost_ret (v := .agg #[.int .i64 (mvI a x l), .int .i64 (mvI a y l)]) (by simp [results, Try.results142, go_sem]) rfl ⟨rfl, ?_⟩
  repeat (first | exact Below.refl _ _ | refine Below.setCell ?_ (by simp <;> omega) _ | refine Below.alloc ?_ (by simp <;> omega) _ | refine below_ext ?_ (by simp <;> omega) _)
end Go.Proofs.Ytgdgelkeflihpaa

/- A map whose elements are booleans: the look-up, at the operation. -/
namespace Go.Proofs.Ytgdgelkeflihpaa
set_option linter.unusedVariables false
set_option linter.unusedSimpArgs false
open Go.ChangeShapes Go.WideShapes Go.ChangeAt Go.RowKit Go.Maps

theorem boolElem_inv {H : Type} {P : Program} {e : TypeId} (he : P.underlying e = some .bool) {v : Value} {z : DataW H × List MemPlace} (h : plainElem P e v = some z) : ∃ x, v = .bool x ∧ z = (.lit (.bool x), []) := by
  unfold plainElem at h
  rw [he] at h
  cases v <;> simp at h
  exact ⟨_, rfl, h.symm⟩

theorem lookup_bool {H : Type} {P : Program} (w : World) {ops : Array Oper} {rest : List Oper} {o : Oper} {a : Act} {Q : Exit → Act → World → Prop}
    (hg : o.guard = none) (m x : Operand) (t : TypeId) (hop : o.op = Op.lookup t m x false)
    (k e : TypeId) (K : Keyed P k) (ht : P.underlying t = some (.map k e)) (he : P.underlying e = some .bool) (hz : (zeroValue e).run P w = .ok (.bool false) w) (b n : Nat) (D : DataW H)
    (hm : a.eval m = .map (some b)) (hown : w.ownsMap P k (plainElem P e) b n D) (key : Value) (kl : Lit) (hx : a.eval x = key) (hkey : keyOf P k key = some kl)
    (hK : ∀ c : Bool, D.atKey kl (.lit (.bool false)) = .lit (.bool c) → wpList P ops Q rest (a.put o.dst (.bool c)) w) :
    wpList P ops Q (o :: rest) a w := by
  refine wpList_plain hg fun K' hK' => ?_
  obtain ⟨v, ps, hrun, hv⟩ := hown.lookup K ht hz (plainElem_bool he false) hkey
  obtain ⟨c, rfl, hc⟩ := boolElem_inv he hv
  unfold Oper.wp
  simp [execOp, hop, hm, hx, hrun, Result.andThen]
  exact hK' _ _ (hK c (congrArg Prod.fst hc))

/-- the same, as the run alone (a guarded look-up's walk rewrites with it) -/
theorem run_lookup_bool {H : Type} {P : Program} {w : World} {t k e : TypeId} (K : Keyed P k) (ht : P.underlying t = some (.map k e)) (he : P.underlying e = some .bool) (hz : (zeroValue e).run P w = .ok (.bool false) w) {b n : Nat} {D : DataW H}
    (hown : w.ownsMap P k (plainElem P e) b n D) {key : Value} {kl : Lit} (hkey : keyOf P k key = some kl) {c : Bool} (hc : D.atKey kl (.lit (.bool false)) = .lit (.bool c)) :
    (Instr.lookup t (.map (some b)) key false).run P w = .ok (.bool c) w := by
  obtain ⟨v, ps, hrun, hv⟩ := hown.lookup K ht hz (plainElem_bool he false) hkey
  obtain ⟨c', rfl, hc'⟩ := boolElem_inv he hv
  have h1 := (congrArg Prod.fst hc').symm.trans hc
  injection h1 with h1
  injection h1 with h1
  rw [← h1]
  exact hrun

end Go.Proofs.Ytgdgelkeflihpaa

/- Keys of a map over pairs of states: two integers. -/
namespace Go.Proofs.Ytgdgelkeflihpaa
set_option linter.unusedVariables false
set_option linter.unusedSimpArgs false
open Go.ChangeShapes Go.WideShapes Go.ChangeAt Go.RowKit Go.Maps

theorem key2s {P : Program} {k : TypeId} {f0 f1 : Field} (hu : P.underlying k = some (.struct #[f0, f1])) (h1 : P.keyType k = true) (hc : P.cellsOf k = 2) (h0 : P.underlying f0.type = some (.int .i64)) (h0' : P.underlying f1.type = some (.int .i64))
    (c0 : P.cellsOf f0.type = 1) (c1 : P.cellsOf f1.type = 1) (o0 : f0.offset = 0) (o1 : f1.offset = 1) (n0 : (f0.name != "_") = true) (n1 : (f1.name != "_") = true) {n : Nat} (hn : P.types.size = n + 1)
    (x s : Int) (hx : (Lit.int .i64 x).wf = true) (hs : (Lit.int .i64 s).wf = true) : keyOf P k (.agg #[.int .i64 x, .int .i64 s]) = some (.string (keyBytes [.int .i64 x, .int .i64 s])) := by
  have h4 : (Value.agg #[.int .i64 x, .int .i64 s]).formed P k = true := by simp [Value.formed, hu, hc]
  simp only [bne_iff_ne, ne_eq] at n0 n1
  simp [keyOf, hu, h1, h4, hn, Program.keyLits, hc, h0, h0', c0, c1, o0, o1, n0, n1, hx, hs, Value.cells]
theorem laidOutS : laidOutB Try.prog = true := by kernel_rfl
theorem wideStates : (match Try.prog.underlying 141 with | some (.array _ _) | some (.struct _) => true | _ => false) = true := by rw [Try.underlying141]
theorem rowStates : decide (141 < Try.prog.types.size) = true := by kernel_rfl
theorem typeStates : Try.prog.keyTypeAt 5 141 = true := by kernel_rfl
set_option maxRecDepth 100000 in
theorem keyedStates : Keyed Try.prog 141 := Keyed.of_law (deep_law_laid laidOutS (m := 5) (by decide) (of_decide_eq_true rowStates) typeStates wideStates)
theorem sizeStates : ∃ n, Try.prog.types.size = n + 1 := ⟨Try.prog.types.size - 1, by have h : 0 < Try.prog.types.size := of_decide_eq_true (by kernel_rfl); omega⟩
def stKey (x s : Int) : Lit := .string (keyBytes [.int .i64 x, .int .i64 s])
theorem keyTStates : Try.prog.keyType 141 = true := by kernel_rfl
theorem cellsStates : Try.prog.cellsOf 141 = 2 := by kernel_rfl
theorem cellsIntS : Try.prog.cellsOf 3 = 1 := by kernel_rfl
theorem keyStates (x s : Int) (hx : (Lit.int .i64 x).wf = true) (hs : (Lit.int .i64 s).wf = true) : keyOf Try.prog 141 (.agg #[.int .i64 x, .int .i64 s]) = some (stKey x s) := by
  obtain ⟨n, hn⟩ := sizeStates
  exact key2s Try.underlying141 keyTStates cellsStates Try.underlying3 Try.underlying3 cellsIntS cellsIntS rfl rfl (by decide) (by decide) hn x s hx hs
theorem stKey_inj {x s x' s' : Int} (hx : (Lit.int .i64 x).wf = true) (hs : (Lit.int .i64 s).wf = true) (hx' : (Lit.int .i64 x').wf = true) (hs' : (Lit.int .i64 s').wf = true) (h : stKey x s = stKey x' s') : x = x' ∧ s = s' := by
  have h1 := keyStates x s hx hs
  have h2 := keyStates x' s' hx' hs'
  rw [← h] at h2
  have h3 := keyedStates.inj h1 h2
  injection h3 with h3
  simpa using h3
end Go.Proofs.Ytgdgelkeflihpaa

/- The set of pairs met, as the program's map[states]bool keeps it. -/
namespace Go.Proofs.Ytgdgelkeflihpaa
set_option linter.unusedVariables false
set_option linter.unusedSimpArgs false
open Go.ChangeShapes Go.WideShapes Go.ChangeAt Go.RowKit Go.Maps
/-- the datum holds true at exactly the pairs of r -/
def SeenD {H : Type} (D : DataW H) (r : List (Int × Int)) : Prop :=
  IsMap D ∧ ∀ x s : Int, (Lit.int .i64 x).wf = true → (Lit.int .i64 s).wf = true → D.atKey (stKey x s) (.lit (.bool false)) = .lit (.bool (decide ((x, s) ∈ r)))
theorem SeenD.empty {H : Type} : SeenD (.map [] : DataW H) [] := ⟨isMap_empty, fun x s _ _ => by simp [DataW.atKey]⟩
theorem SeenD.put {H : Type} {D : DataW H} {r : List (Int × Int)} (h : SeenD D r) {y t : Int} (hy : (Lit.int .i64 y).wf = true) (ht : (Lit.int .i64 t).wf = true) : SeenD (D.put (stKey y t) (.lit (.bool true))) (r ++ [(y, t)]) := by
  refine ⟨h.1.put _ _, fun x s hx hs => ?_⟩
  by_cases he : x = y ∧ s = t
  · obtain ⟨rfl, rfl⟩ := he
    rw [atKey_put_same h.1 (show WideAt.IsKeyLit (stKey x s) from trivial)]
    simp
  · rw [atKey_put_other (fun e => he (stKey_inj hx hs hy ht e)), h.2 x s hx hs]
    congr 2
    rw [decide_eq_decide, List.mem_append, List.mem_singleton, Prod.mk.injEq]
    exact ⟨.inl, fun h => h.resolve_right he⟩
theorem wf_i64 {x : Int} (h1 : -9223372036854775808 ≤ x) (h2 : x ≤ 9223372036854775807) : (Lit.int .i64 x).wf = true := by
  have e1 : IntKind.i64.min = -9223372036854775808 := by decide
  have e2 : IntKind.i64.max = 9223372036854775807 := by decide
  simp [Lit.wf, IntKind.wrap] <;> omega
end Go.Proofs.Ytgdgelkeflihpaa

