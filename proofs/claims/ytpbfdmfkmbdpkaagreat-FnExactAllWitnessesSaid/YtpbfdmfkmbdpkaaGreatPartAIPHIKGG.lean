/- Parts of the proof, joined into one text: Nest, LawKit, HelpStep, HelpWalk, Nw, NwMark, AscM, DistM, SpreadM. -/
import Derived.Test.YtpbfdmfkmbdpkaaGreatPartCPHKMOBB
import Derived.Test.YtpbfdmfkmbdpkaaGreatPartBPNIFNNL
import Derived.Test.YtpbfdmfkmbdpkaaGreatPartEPECPLEK
import Derived.Lib.SlicesCompact
/- Rows of rows of the call's own, told by the blocks that they hold: an outer row of slices, each of them a row of its own, no two in one block. Over any program. -/
namespace Go.Proofs.YtpbfdmfkmbdpkaaGreat
set_option linter.unusedVariables false
set_option linter.unusedSimpArgs false
open Go.ChangeShapes Go.WideShapes Go.ChangeAt Go.RowKit

section
variable {H b o : Nat} {w : World}
theorem SlC.intA {xs : List Int} (h : SlC H w cI 1 (some ⟨b, o, none⟩) xs) {i : Nat} {x : Int} (hx : xs[i]? = some x) : b < H ∧ w.cell? ⟨b, o + i, none⟩ = some (.int .i64 x) := by
  obtain ⟨b', o', e, h1, h2⟩ := h.int hx
  injection e with e
  injection e with e1 e2
  subst e1 e2
  exact ⟨h1, h2⟩
theorem SlC.natA {xs : List Nat} (h : SlC H w cN 1 (some ⟨b, o, none⟩) xs) {i : Nat} {x : Nat} (hx : xs[i]? = some x) : b < H ∧ w.cell? ⟨b, o + i, none⟩ = some (.int .i64 (x : Int)) := by
  obtain ⟨b', o', e, h1, h2⟩ := h.nat hx
  injection e with e
  injection e with e1 e2
  subst e1 e2
  exact ⟨h1, h2⟩
theorem SlC.stA {xs : List St} (h : SlC H w cSt 2 (some ⟨b, o, none⟩) xs) {i : Nat} {x : St} (hx : xs[i]? = some x) : b < H ∧ w.cell? ⟨b, o + i * 2, none⟩ = some (.int .i64 x.1) ∧ w.cell? ⟨b, o + i * 2 + 1, none⟩ = some (.bool x.2) := by
  obtain ⟨b', o', e, h1, h2, h3⟩ := h.st hx
  injection e with e
  injection e with e1 e2
  subst e1 e2
  exact ⟨h1, h2, h3⟩
end
theorem flatCV (l : List Value) : l.flatMap cV = l := by
  induction l with
  | nil => rfl
  | cons x l ih => rw [List.flatMap_cons, ih]; rfl
/-- the blocks that slices hold -/
abbrev blks (us : List Value) : List Nat := us.filterMap Value.ownBlock
structure NS {α : Type} (lo : Nat) (w : World) (oT eT : TypeId) (E : α → List Value) (k : Nat) (v : Value) (us : List Value) (xss : List (List α)) : Prop where
  own : w.ownsRow lo oT 1 v us.length (us.flatMap cV)
  len : us.length = xss.length
  rows : ∀ (i : Nat) (u : Value) (xs : List α), us[i]? = some u → xss[i]? = some xs → w.ownsRow lo eT k u xs.length (xs.flatMap E)
  dis : (blks (v :: us)).Nodup
section
variable {α : Type} {lo : Nat} {w w' : World} {oT eT : TypeId} {E : α → List Value} {k : Nat} {v : Value} {us : List Value} {xss : List (List α)}
theorem mem_blks {us : List Value} {b : Nat} : b ∈ blks us ↔ ∃ (i : Nat) (u : Value), us[i]? = some u ∧ u.ownBlock = some b := by
  rw [List.mem_filterMap]
  constructor
  · rintro ⟨u, hu, hb⟩
    obtain ⟨i, hi⟩ := List.getElem?_of_mem hu
    exact ⟨i, u, hi, hb⟩
  · rintro ⟨i, u, hu, hb⟩
    exact ⟨u, List.mem_of_getElem? hu, hb⟩
theorem NS.lt (h : NS lo w oT eT E k v us xss) : ∀ b ∈ blks (v :: us), lo ≤ b ∧ b < w.heap.size := by
  intro b hb
  obtain ⟨i, u, hu, hbu⟩ := mem_blks.1 hb
  cases i with
  | zero =>
    simp only [List.getElem?_cons_zero, Option.some.injEq] at hu
    subst hu
    exact h.own.lt b hbu
  | succ i =>
    rw [List.getElem?_cons_succ] at hu
    have hi : i < xss.length := by rw [← h.len]; exact (List.getElem?_eq_some_iff.1 hu).1
    exact (h.rows i u _ hu (List.getElem?_eq_getElem hi)).lt b hbu
theorem NS.blocks (h : NS lo w oT eT E k v us xss) (hb : ∀ b ∈ blks (v :: us), w'.heap[b]? = w.heap[b]?) : NS lo w' oT eT E k v us xss :=
  ⟨ownsRow_block h.own fun g hg => hb g (mem_blks.2 ⟨0, v, rfl, hg⟩), h.len,
    fun i u xs hu hx => ownsRow_block (h.rows i u xs hu hx) fun g hg => hb g (mem_blks.2 ⟨i + 1, u, by simpa using hu, hg⟩), h.dis⟩
theorem NS.below (h : NS lo w oT eT E k v us xss) (hb : Below w.heap.size w w') : NS lo w' oT eT E k v us xss := h.blocks fun b hm => hb.block b (h.lt b hm).2
theorem NS.mono (h : NS lo w oT eT E k v us xss) {lo' : Nat} (hl : lo' ≤ lo) : NS lo' w oT eT E k v us xss :=
  ⟨ownsRow_mono h.own hl, h.len, fun i u xs hu hx => ownsRow_mono (h.rows i u xs hu hx) hl, h.dis⟩
theorem NS.start (h : w.ownsRow lo oT 1 v 0 []) : NS lo w oT eT E k v [] ([] : List (List α)) :=
  ⟨h, rfl, fun i u xs hu _ => by simp at hu, by cases hv : v.ownBlock <;> simp [hv]⟩
theorem NS.push (h : NS lo w oT eT E k v us xss) {u : Value} {xs : List α} (hu : w.ownsRow lo eT k u xs.length (xs.flatMap E)) (hn : ∀ b, u.ownBlock = some b → b ∉ blks (v :: us))
    {v' : Value} (hg : w.grownBy w' v.ownBlock) (hr : w'.ownsRow lo oT 1 v' (us ++ [u]).length ((us ++ [u]).flatMap cV)) (hat : ∀ g, v'.ownBlock = some g → v.ownBlock = some g ∨ w.heap.size ≤ g) :
    NS lo w' oT eT E k v' (us ++ [u]) (xss ++ [xs]) := by
  have hdis := h.dis
  have hkeep : ∀ (u' : Value) (n : Nat) (cs : List Value), w.ownsRow lo eT k u' n cs → (∀ b, u'.ownBlock = some b → v.ownBlock ≠ some b) → w'.ownsRow lo eT k u' n cs := fun u' n cs ho hne => by
    refine ho.kept hg ?_
    cases hb : u'.ownBlock with
    | none => exact .inl rfl
    | some b => exact .inr fun e => hne b hb e.symm
  have hv0 : ∀ b, v.ownBlock = some b → b ∉ blks us := fun b hb => by
    rw [blks, List.filterMap_cons, hb] at hdis
    exact (List.nodup_cons.1 hdis).1
  refine ⟨hr, by simp [h.len], fun i u' xs' hi hx => ?_, ?_⟩
  · rcases Nat.lt_or_ge i us.length with hlt | hge
    · rw [List.getElem?_append_left hlt] at hi
      rw [List.getElem?_append_left (by rw [← h.len]; exact hlt)] at hx
      exact hkeep _ _ _ (h.rows i u' xs' hi hx) fun b hb hvb => hv0 b hvb (mem_blks.2 ⟨i, u', hi, hb⟩)
    · have hi2 := (List.getElem?_eq_some_iff.1 hi).1
      simp only [List.length_append, List.length_singleton] at hi2
      obtain rfl : i = us.length := by omega
      have e1 : u = u' := by simpa using hi
      have e2 : xs = xs' := by rw [h.len] at hx; simpa using hx
      subst e1 e2
      exact hkeep _ _ _ hu fun b hb hvb => hn b hb (mem_blks.2 ⟨0, v, rfl, hvb⟩)
  · have hlt := h.lt
    have hus : (blks us).Nodup := by
      cases hv : v.ownBlock with
      | none => simpa [blks, List.filterMap_cons, hv] using hdis
      | some b => rw [blks, List.filterMap_cons, hv] at hdis; exact (List.nodup_cons.1 hdis).2
    have hnu : ∀ b, u.ownBlock = some b → b ∉ blks us := fun b hb hm => hn b hb (by
      obtain ⟨i, u', h1, h2⟩ := mem_blks.1 hm
      exact mem_blks.2 ⟨i + 1, u', by simpa using h1, h2⟩)
    have hall : (blks (us ++ [u])).Nodup := by
      rw [blks, List.filterMap_append]
      cases hub : u.ownBlock with
      | none => simpa [List.filterMap_cons, hub] using hus
      | some b =>
        rw [List.filterMap_cons, hub]
        refine List.nodup_append.2 ⟨hus, by simp, ?_⟩
        intro x hx y hy e
        simp only [List.filterMap_nil, List.mem_cons, List.not_mem_nil, or_false] at hy
        subst hy
        subst e
        exact hnu _ hub hx
    rw [blks, List.filterMap_cons]
    cases hv' : v'.ownBlock with
    | none => exact hall
    | some g =>
      refine List.nodup_cons.2 ⟨fun hm => ?_, hall⟩
      obtain ⟨i, u', hi, hb⟩ := mem_blks.1 hm
      rcases Nat.lt_or_ge i us.length with hl | hge
      · rw [List.getElem?_append_left hl] at hi
        rcases hat g hv' with h1 | h1
        · exact hv0 g h1 (mem_blks.2 ⟨i, u', hi, hb⟩)
        · have := (hlt g (mem_blks.2 ⟨i + 1, u', by simpa using hi, hb⟩)).2
          omega
      · have hi2 := (List.getElem?_eq_some_iff.1 hi).1
        simp only [List.length_append, List.length_singleton] at hi2
        obtain rfl : i = us.length := by omega
        have e1 : u = u' := by simpa using hi
        subst e1
        rcases hat g hv' with h1 | h1
        · exact hn g hb (mem_blks.2 ⟨0, v, rfl, h1⟩)
        · have := (hu.lt g hb).2
          omega
theorem grown_alloc {o : Obj} {row : Option Nat} (h : (w.alloc o).grownBy w' row) : w.grownBy w' row :=
  ⟨h.os, h.tape, h.output, Nat.le_trans (by simp) h.size, fun n hn hne => (h.block n (by simp; omega) hne).trans (Below.heap_alloc w o n hn)⟩
/-- what is read of it: the header of row i, and the row -/
theorem NS.row (h : NS lo w oT eT E k v us xss) (hE : ∀ x, (E x).length = k) {i : Nat} {xs : List α} (hx : xss[i]? = some xs) :
    ∃ g cap A c, v = .slice (some ⟨g, 0, none⟩) xss.length cap ∧ us[i]? = some (.slice A xs.length c) ∧ g < w.heap.size ∧ w.cell? ⟨g, i, none⟩ = some (.slice A xs.length c) ∧ xs.length ≤ c ∧ c ≤ maxLen ∧ SlI lo w.heap.size w E k (.slice A xs.length c) xs := by
  have hi : i < us.length := by rw [h.len]; exact (List.getElem?_eq_some_iff.1 hx).1
  have hu : us[i]? = some us[i] := List.getElem?_eq_getElem hi
  have hr := h.rows i _ xs hu hx
  generalize us[i] = u at hu hr
  have hsl := (Own.of_row (xs := xs) hr rfl rfl).sl hE
  have hsl' := hsl
  obtain ⟨A, c, rfl, hl, hm, -⟩ := hsl'
  have hown := h.own
  have hlt := h.own.lt
  rw [flatCV] at hown
  have hown2 := hown
  obtain ⟨h1, h2⟩ := hown2
  rcases h2 with ⟨rfl, h3⟩ | ⟨g, cap, cur, rfl, r⟩
  · omega
  · refine ⟨g, cap, A, c, by rw [h.len], hu, (hlt g rfl).2, ?_, hl, hm, hsl⟩
    rw [World.ownsRow.cellAt hown i (by omega)]
    exact hu
theorem NS.at (h : NS lo w oT eT E k v us xss) (hE : ∀ x, (E x).length = k) {g n cap : Nat} (hv : v = .slice (some ⟨g, 0, none⟩) n cap) {i : Nat} {xs : List α} (hx : xss[i]? = some xs) :
    ∃ A c, w.cell? ⟨g, i, none⟩ = some (.slice A xs.length c) ∧ xs.length ≤ c ∧ c ≤ 9223372036854775807 ∧ SlI lo w.heap.size w E k (.slice A xs.length c) xs := by
  obtain ⟨g', cap', A, c, hv', -, -, hc, h1, h2, h3⟩ := h.row hE hx
  rw [hv] at hv'
  injection hv' with e1 _ _
  injection e1 with e1
  injection e1 with e1
  subst e1
  exact ⟨A, c, hc, h1, h2, h3⟩
/-- a row that is not empty has a block of its own -/
theorem own_some {W : World} {base k n : Nat} {e : TypeId} {v : Value} {cs : List Value} (h : W.ownsRow base e k v n cs) (hn : n ≠ 0) : ∃ g c, v = .slice (some ⟨g, 0, none⟩) n c ∧ base ≤ g ∧ g < W.heap.size ∧ n ≤ c ∧ c ≤ 9223372036854775807 := by
  have hlt := h.lt
  obtain ⟨h1, h2⟩ := h
  rcases h2 with ⟨rfl, h3⟩ | ⟨g, cap, cur, rfl, h4, h5, h6, h7, r⟩
  · exact absurd h3 hn
  · exact ⟨g, cap, rfl, h4, (hlt g rfl).2, h6, h7⟩
theorem NS.shape (h : NS lo w oT eT E k v us xss) : ∃ A c, v = .slice A xss.length c ∧ xss.length ≤ c ∧ c ≤ maxLen := by
  obtain ⟨h1, h2⟩ := h.own
  rcases h2 with ⟨rfl, h3⟩ | ⟨g, cap, cur, rfl, h4, h5, h6, h7, r⟩
  · exact ⟨none, 0, by rw [← h.len, h3], by rw [← h.len, h3]; exact Nat.le_refl _, by unfold maxLen; omega⟩
  · exact ⟨_, cap, by rw [h.len], by rw [← h.len]; exact h6, h7⟩
end
end Go.Proofs.YtpbfdmfkmbdpkaaGreat

/- Words for laws whose results lie in memory: what is owned outlives marks elsewhere; rows of rows are marked whatever the order of their blocks. -/
namespace Go.Proofs.YtpbfdmfkmbdpkaaGreat
set_option linter.unusedVariables false
set_option linter.unusedSimpArgs false
open Go.ChangeShapes Go.WideShapes Go.ChangeAt Go.RowKit
attribute [local go_sem] ext_cell ext_frozen ext_lt ext_lt1 ext_lt2 ext_lt3 ltn2 ltn3 ltn13 lts1 lts2 lts3

theorem GrO.only {lo hi : Nat} {w w' : World} {v : Value} {g : Gr} (h : GrO lo hi w v g) {l r : Nat} (hb : Only l r w w') (ho : hi ≤ l ∨ r ≤ lo) : GrO lo hi w' v g := by
  obtain ⟨vs, es, mid, rfl, h1, h2, h3, h4⟩ := h
  exact ⟨vs, es, mid, rfl, h1.only hb (by omega), h2.only hb (by omega), h3, h4⟩
theorem AuO.only {lo hi : Nat} {w w' : World} {v : Value} {a : Au} (h : AuO lo hi w v a) {l r : Nat} (hb : Only l r w w') (ho : hi ≤ l ∨ r ≤ lo) : AuO lo hi w' v a := by
  obtain ⟨ac, nx, mid, rfl, h1, h2, h3, h4⟩ := h
  exact ⟨ac, nx, mid, rfl, h1.only hb (by omega), h2.only hb (by omega), h3, h4⟩

theorem ownsRow_base {w : World} {base b k n : Nat} {e : TypeId} {v : Value} {cs : List Value} (hb : ∀ g, v.ownBlock = some g → b ≤ g) (h : w.ownsRow base e k v n cs) : w.ownsRow b e k v n cs := by
  obtain ⟨hl, hs⟩ := h
  rcases hs with ⟨rfl, hn⟩ | ⟨g, cap, cur, rfl, hg, r⟩
  · exact ⟨hl, .inl ⟨rfl, hn⟩⟩
  · exact ⟨hl, .inr ⟨g, cap, cur, rfl, hb g rfl, r⟩⟩
theorem filterMap_inj {α β : Type} {f : α → Option β} {L : List α} (h : (L.filterMap f).Nodup) {i j : Nat} {x y : α} (hi : L[i]? = some x) (hj : L[j]? = some y) {b : β} (hx : f x = some b) (hy : f y = some b) : i = j := by
  have hp := List.pairwise_filterMap.1 h
  rw [List.pairwise_iff_getElem] at hp
  obtain ⟨hi1, hi2⟩ := List.getElem?_eq_some_iff.1 hi
  obtain ⟨hj1, hj2⟩ := List.getElem?_eq_some_iff.1 hj
  rcases Nat.lt_trichotomy i j with hl | he | hg
  · exact absurd rfl (hp i j hi1 hj1 hl b (by rw [hi2]; exact hx) b (by rw [hj2]; exact hy))
  · exact he
  · exact absurd rfl (hp j i hj1 hi1 hg b (by rw [hj2]; exact hy) b (by rw [hi2]; exact hx))
theorem NS.turn {α : Type} {lo : Nat} {w w' : World} {oT eT : TypeId} {E : α → List Value} {k : Nat} {v : Value} {us : List Value} {xss : List (List α)} (h : NS lo w oT eT E k v us xss) {i : Nat} {u : Value} {xs' : List α} (hu : us[i]? = some u)
    (hr : w'.ownsRow lo eT k u xs'.length (xs'.flatMap E)) (hb : ∀ b ∈ blks (v :: us), u.ownBlock ≠ some b → w'.heap[b]? = w.heap[b]?) : NS lo w' oT eT E k v us (xss.set i xs') := by
  have hdis := h.dis
  refine ⟨ownsRow_block h.own fun g hg => hb g (mem_blks.2 ⟨0, v, rfl, hg⟩) fun e => ?_, by simp [h.len], fun j u2 xs2 hj hx => ?_, hdis⟩
  · have := filterMap_inj (i := 0) (j := i + 1) hdis rfl (by simpa using hu) hg e
    omega
  · by_cases hij : i = j
    · subst hij
      rw [hu] at hj
      injection hj with hj
      subst hj
      have hl := (List.getElem?_eq_some_iff.1 hx).1
      rw [List.length_set] at hl
      rw [List.getElem?_set_self hl] at hx
      injection hx with hx
      subst hx
      exact hr
    · rw [List.getElem?_set_ne hij] at hx
      refine ownsRow_block (h.rows j u2 xs2 hj hx) fun g hg => hb g (mem_blks.2 ⟨j + 1, u2, by simpa using hj, hg⟩) fun e => ?_
      have := filterMap_inj (i := i + 1) (j := j + 1) hdis (by simpa using hu) (by simpa using hj) e hg
      omega
/-- an owned row lies in its own block alone -/
theorem own_tight {α : Type} {E : α → List Value} {w : World} {base k : Nat} {e : TypeId} {v : Value} {xs : List α} (h : w.ownsRow base e k v xs.length (xs.flatMap E)) :
    ∃ l r, Own l r w e E k v xs ∧ (∀ b, l ≤ b → b < r → v.ownBlock = some b) ∧ (l < r → base ≤ l ∧ r ≤ w.heap.size) := by
  have hlt := h.lt
  obtain ⟨hl, hs⟩ := h
  rcases hs with ⟨rfl, hn⟩ | ⟨g, cap, cur, rfl, hg, hh, rr⟩
  · exact ⟨0, 0, ⟨⟨hl, .inl ⟨rfl, hn⟩⟩, by intro g hg; cases hg⟩, by intro b _ hb; omega, by omega⟩
  · have h2 := hlt g rfl
    refine ⟨g, g + 1, ⟨⟨hl, .inr ⟨g, cap, cur, rfl, Nat.le_refl _, hh, rr⟩⟩, by intro b hb; injection hb with hb; subst hb; exact Nat.lt_succ_self _⟩, fun b h1 h2 => ?_, fun _ => by omega⟩
    obtain rfl : b = g := by omega
    rfl

/-- rows of rows whose blocks all lie from lo to hi -/
def NSO (lo hi : Nat) (w : World) (v : Value) (xss : List (List Int)) : Prop :=
  ∃ us, NS lo w 22 3 cI 1 v us xss ∧ ∀ b ∈ blks (v :: us), b < hi
section
variable {lo hi : Nat} {w w' : World} {v : Value} {xss : List (List Int)}
theorem NSO.of {us : List Value} (h : NS lo w 22 3 cI 1 v us xss) : NSO lo w.heap.size w v xss := ⟨us, h, fun b hb => (h.lt b hb).2⟩
theorem NSO.view (h : NSO lo hi w v xss) : SSV lo hi w v xss := by
  obtain ⟨us, h, hl⟩ := h
  refine ⟨us, Own.sl ⟨h.own, fun g hg => hl g (mem_blks.2 ⟨0, v, rfl, hg⟩)⟩ cV_len, h.len, fun i u xs hu hx => ?_⟩
  exact Own.sl ⟨h.rows i u xs hu hx, fun g hg => hl g (mem_blks.2 ⟨i + 1, u, by simpa using hu, hg⟩)⟩ cI_len
theorem NSO.below (h : NSO lo hi w v xss) {B : Nat} (hb : Below B w w') (hB : hi ≤ B) : NSO lo hi w' v xss := by
  obtain ⟨us, h, hl⟩ := h
  exact ⟨us, h.blocks fun b hm => hb.block b (by have := hl b hm; omega), hl⟩
theorem NSO.only (h : NSO lo hi w v xss) {l r : Nat} (hb : Only l r w w') (ho : hi ≤ l ∨ r ≤ lo) : NSO lo hi w' v xss := by
  obtain ⟨us, h, hl⟩ := h
  exact ⟨us, h.blocks fun b hm => hb.block b (h.lt b hm).2 (by have := hl b hm; have := (h.lt b hm).1; omega), hl⟩
theorem NSO.mono (h : NSO lo hi w v xss) {lo' hi' : Nat} (h1 : lo' ≤ lo) (h2 : hi ≤ hi') : NSO lo' hi' w v xss := by
  obtain ⟨us, h, hl⟩ := h
  exact ⟨us, h.mono h1, fun b hb => by have := hl b hb; omega⟩
end

set_option maxHeartbeats 1000000 in
theorem markNS_any (lo hi : Nat) (v : Value) (xss : List (List Int)) (k : Int) (w : World) (hv : NSO lo hi w v xss) (hk : 0 ≤ k) (hb : k + sumLen xss ≤ 4611686018427387904) (hhi : hi ≤ w.heap.size) :
    Calls Tryz.prog 43 #[v, .int .i64 k] w fun en w' => en = .returned (.int .i64 (k + sumLen xss)) ∧ NSO lo hi w' v (mkSS k xss) ∧ Only lo hi w w' := by
  obtain ⟨us, hns, hlt⟩ := hv
  obtain ⟨A, c, rfl, hl, hm⟩ := hns.shape
  have HNS0 := Lib.hid hns
  have HLT := Lib.hid hlt
  unfold maxLen at hm
  have hz := fun i => sumLen_take_le xss i
  clear hns hlt
  go_enter Tryz.func43, Tryz.ntmps43
  go_wp2
  go_loopw [1, 5] (fun kk ii wr => ∃ i : Nat, i ≤ xss.length ∧ kk = .int .i64 (k + sumLen (xss.take i)) ∧ ii = .int .i64 i ∧ NS lo wr 22 3 cI 1 (.slice A xss.length c) us (mkSS k (xss.take i) ++ xss.drop i) ∧ Only lo hi w wr) (fun _ ii _ => xss.length - (intOf ii).toNat)
  case atStart => exact ⟨0, Nat.zero_le _, by simp [sumLen], rfl, by simpa [mkSS] using HNS0.out, Only.refl _ _ _⟩
  case round =>
    obtain ⟨i, hi', rfl, rfl, hns, honly⟩ := hrel
    have HNS := Lib.hid hns
    clear hns
    by_cases hlt : i < xss.length
    · have hxi : xss[i]? = some xss[i] := List.getElem?_eq_getElem hlt
      have hd2 := List.drop_eq_getElem_cons hlt
      have hz1 := hz i
      have hz2 := hz (i + 1)
      have ht2 : xss.take (i + 1) = xss.take i ++ [xss[i]] := take_snoc hxi
      generalize xss[i] = xs at hd2 ht2 hxi
      have hmi : (mkSS k (xss.take i) ++ xss.drop i)[i]? = some xs := by
        rw [List.getElem?_append_right (by rw [mkSS_len, List.length_take]; omega), mkSS_len, List.length_take, hd2]
        simp [Nat.min_eq_left (Nat.le_of_lt hlt)]
      obtain ⟨g, cap, A1, c1, hv1, hui, hgl, hcell, -, -, -⟩ := HNS.out.row cI_len hmi
      have hri := HNS.out.rows i _ xs hui hmi
      injection hv1 with e1 e2 e3
      subst e1
      obtain ⟨l, r, hown, htight, hlr⟩ := own_tight hri
      have hri2 := hri.lt
      have hsum : sumLen (xss.take (i + 1)) = sumLen (xss.take i) + xs.length := by rw [ht2, sumLen_app]; simp [sumLen]
      have hmk : (mkSS k (xss.take i) ++ xss.drop i).set i (mkInt (k + sumLen (xss.take i)) xs.length) = mkSS k (xss.take (i + 1)) ++ xss.drop (i + 1) := by
        rw [ht2, mkSS_app, hd2, List.set_append_right _ _ (by rw [mkSS_len, List.length_take]; omega), mkSS_len, List.length_take, Nat.min_eq_left (Nat.le_of_lt hlt), Nat.sub_self]
        simp [mkSS]
      rw [hsum] at hz2
      have HS := Lib.hid hsum
      have HM := Lib.hid hmk
      have HUI := Lib.hid hui
      have HT := Lib.hid htight
      have HLR := Lib.hid hlr
      have HOWN := Lib.hid hown
      have hcell : wr.cell? ⟨g, i, none⟩ = some (.slice A1 xs.length c1) := hcell
      have hsw := honly.size
      have hhi2 : hi ≤ wr.heap.size := by omega
      have hrb : l < r → lo ≤ l ∧ r ≤ hi := fun h => ⟨(hlr h).1, by
        have := htight (r - 1) (by omega) (by omega)
        have := HLT.out (r - 1) (mem_blks.2 ⟨i + 1, _, by simpa using hui, this⟩)
        omega⟩
      have HRB := Lib.hid hrb
      clear hxi hd2 ht2 hmi hui hri hri2 hsum hmk hz htight hlr hown e2 e3 hrb
      go_wp2_with fail
      refine (markIntS_any l r _ _ xs (k + sumLen (xss.take i)) _ HOWN.out (by omega) (by omega)).mono ?_
      rintro e w2 ⟨rfl, ho2, hon2⟩
      go_wp2_with fail
      go_roundw
      case rel =>
        refine ⟨i + 1, by omega, ?_, by go_num, ?_, ?_⟩
        · rw [HS.out]; go_num
        · rw [← HM.out]
          refine HNS.out.turn HUI.out ?_ fun b hm hne => hon2.block b (HNS.out.lt b hm).2 ?_
          · refine ownsRow_base ?_ ho2.1
            intro g hg
            rcases Nat.lt_or_ge l r with h | h
            · have := HRB.out h
              have := ho2.lt g hg
              omega
            · have := ho2.lt g hg
              omega
          · rcases Nat.lt_or_ge b l with h | h
            · exact .inl h
            · rcases Nat.lt_or_ge b r with h2 | h2
              · exact absurd (HT.out b h h2) hne
              · exact .inr h2
        · rcases Nat.lt_or_ge l r with h | h
          · exact honly.trans (hon2.mono (HRB.out h).1 (HRB.out h).2)
          · exact honly.trans ⟨hon2.os, hon2.tape, hon2.output, hon2.size, fun n hn _ => hon2.block n hn (by omega)⟩
      case measure => simp [intOf]; omega
    · obtain rfl : i = xss.length := by omega
      rw [List.take_length, List.drop_length, List.append_nil] at HNS
      clear hz
      go_wp2_with fail
      go_ret
      exact ⟨ret_int (by simp), ⟨us, HNS.out, HLT.out⟩, honly⟩
end Go.Proofs.YtpbfdmfkmbdpkaaGreat

/- Step in the laws' helpers: equal lists are told equal; marking, looking, copying, measuring. -/
namespace Go.Proofs.YtpbfdmfkmbdpkaaGreat
set_option linter.unusedVariables false
set_option linter.unusedSimpArgs false
open Go.ChangeShapes Go.WideShapes Go.ChangeAt Go.RowKit
attribute [local go_sem] ext_cell ext_frozen ext_lt ext_lt1 ext_lt2 ext_lt3 ltn2 ltn3 ltn13 lts1 lts2 lts3

theorem eqStep_same (p : St) (w : World) :
    Calls Tryz.prog 100 #[.agg #[.int .i64 p.1, .bool p.2], .agg #[.int .i64 p.1, .bool p.2]] w fun e w' => e = .returned (.bool true) ∧ Below w.heap.size w w' := by
  obtain ⟨a0, a1⟩ := p
  go_enter Tryz.func100, Tryz.ntmps100
  go_wp2
  go_ret
  refine ⟨rfl, ?_⟩
  repeat (first | exact Below.refl _ _ | refine Below.alloc ?_ (by simp) _)
set_option maxHeartbeats 400000 in
theorem eqStepS_same (v1 v2 : Value) (xs : List St) (w : World) (hv1 : SlE w cSt 2 v1 xs) (hv2 : SlE w cSt 2 v2 xs) :
    Calls Tryz.prog 64 #[v1, v2] w fun e w' => e = .returned (.bool true) ∧ Below w.heap.size w w' := by
  obtain ⟨A1, c1, rfl, hl1, hm1, hx1⟩ := hv1
  obtain ⟨A2, c2, rfl, hl2, hm2, hx2⟩ := hv2
  unfold maxLen at hm1 hm2
  go_enter Tryz.func64, Tryz.ntmps64
  go_wp2
  go_loopw [5] (fun i wr => ∃ (k : Nat) (u : World), k ≤ xs.length ∧ i = .int .i64 k ∧ wr = ext w u) (fun i _ => xs.length - (intOf i).toNat)
  case atStart => exact ⟨0, w, Nat.zero_le _, rfl, ext_self w⟩
  case round =>
    obtain ⟨k, u, hk, rfl, rfl⟩ := hrel
    by_cases hlt : k < xs.length
    · obtain ⟨b1, o1, rfl, -, hb1, hc1⟩ := hx1 k xs[k] (List.getElem?_eq_getElem hlt)
      obtain ⟨b2, o2, rfl, -, hb2, hc2⟩ := hx2 k xs[k] (List.getElem?_eq_getElem hlt)
      generalize xs[k] = x at hc1 hc2
      have c10 := hc1 0 _ rfl
      have c11 := hc1 1 _ rfl
      have c20 := hc2 0 _ rfl
      have c21 := hc2 1 _ rfl
      simp only [Nat.add_zero] at c10 c20
      clear hc1 hc2 hx1 hx2
      go_wp2
      refine wp_region_ext_lit (by kernel_rfl) (by kernel_rfl) ?_
      repeat (go_big_quiet_step ((go_at_call 100; exact Calls.ext_of (eqStep_same x _))))
      refine wpQuiet_nil ?_
      intro _ hw'
      obtain ⟨u2, hw''⟩ := hw'
      subst hw''
      go_wp2
      go_roundw
      case rel =>
        obtain ⟨y, hy⟩ := ext_ext w u u2
        exact ⟨k + 1, y, by omega, by go_num, hy⟩
      case measure => simp [intOf]; omega
    · go_wp2
      go_ret
      exact ⟨rfl, ext_below _ _⟩
def mkStep (k : Int) (n : Nat) : List St := (List.range n).map fun (i : Nat) => (k + 2 * (i : Int), ((k + 2 * (i : Int) + 1) % 3 == 0))
theorem mkStep_len (k : Int) (n : Nat) : (mkStep k n).length = n := by simp [mkStep]
theorem mkStep_succ (k : Int) (i : Nat) : mkStep k (i + 1) = mkStep k i ++ [(k + 2 * (i : Int), ((k + 2 * (i : Int) + 1) % 3 == 0))] := by simp [mkStep, List.range_succ]
theorem mkStep_at (k : Int) {n i : Nat} (h : i < n) : (mkStep k n)[i]? = some (k + 2 * (i : Int), ((k + 2 * (i : Int) + 1) % 3 == 0)) := by simp [mkStep, h]
theorem flatStep_len (l : List St) : (l.flatMap cSt).length = l.length * 2 := by
  induction l with
  | nil => rfl
  | cons x l ih => simp only [List.flatMap_cons, List.length_append, cSt_len, ih, List.length_cons]; omega
theorem markStep_step (k : Int) (xs : List St) (i : Nat) (hi : i < xs.length) :
    ((((mkStep k i ++ xs.drop i).flatMap cSt).set (i * 2) (.int .i64 (k + 2 * (i : Int)))).set (i * 2 + 1) (.bool (((k + 2 * (i : Int) + 1) % 3 == 0)))) = (mkStep k (i + 1) ++ xs.drop (i + 1)).flatMap cSt := by
  rw [List.drop_eq_getElem_cons hi, mkStep_succ]
  have hl : ((mkStep k i).flatMap cSt).length = i * 2 := by rw [flatStep_len, mkStep_len]
  simp only [List.flatMap_append, List.flatMap_cons, List.flatMap_nil, List.append_nil, List.append_assoc]
  rw [List.set_append_right _ _ (by omega), List.set_append_right _ _ (by omega), hl]
  simp [cSt]
set_option maxHeartbeats 4000000 in
theorem markStepS_any (lo hi : Nat) (e : TypeId) (v : Value) (xs : List St) (k : Int) (w : World) (hv : Own lo hi w e cSt 2 v xs) (hk : 0 ≤ k) (hb : k + 2 * xs.length ≤ 4611686018427387904) :
    Calls Tryz.prog 44 #[v, .int .i64 k] w fun en w' => en = .returned (.int .i64 (k + 2 * xs.length)) ∧ Own lo hi w' e cSt 2 v (mkStep k xs.length) ∧ Only lo hi w w' := by
  obtain ⟨hr, hlt⟩ := hv
  have hr0 := hr
  obtain ⟨hl, hs⟩ := hr0
  rcases hs with ⟨rfl, hn⟩ | ⟨g, cap, cur, rfl, hg, hh, hnc, hcm, hsz, htk⟩
  · obtain rfl : xs = [] := List.eq_nil_of_length_eq_zero hn
    clear hl hr hn hlt
    go_enter Tryz.func44, Tryz.ntmps44
    go_wp2
    go_loopw [1, 5] (fun kk ii wr => kk = .int .i64 k ∧ ii = .int .i64 0 ∧ wr = w) (fun _ _ _ => 0)
    case atStart => exact ⟨rfl, rfl, rfl⟩
    case round =>
      obtain ⟨rfl, rfl, rfl⟩ := hrel
      go_wp2
      go_ret
      exact ⟨by simp, by simpa [mkStep] using Own.nil lo hi wr e cSt 2, Only.refl _ _ _⟩
  · have hglt := hlt g rfl
    unfold maxLen at hcm
    have HL := Lib.hid hl
    clear hh htk hsz hlt hl
    go_enter Tryz.func44, Tryz.ntmps44
    go_wp2
    go_loopw [1, 5] (fun kk ii wr => ∃ i : Nat, i ≤ xs.length ∧ kk = .int .i64 (k + 2 * i) ∧ ii = .int .i64 i ∧ wr.ownsRow lo e 2 (.slice (some ⟨g, 0, none⟩) xs.length cap) xs.length ((mkStep k i ++ xs.drop i).flatMap cSt) ∧ Only lo hi w wr) (fun _ ii _ => xs.length - (intOf ii).toNat)
    case atStart => exact ⟨0, Nat.zero_le _, by simp, rfl, by simpa [mkStep] using hr, Only.refl _ _ _⟩
    case round =>
      obtain ⟨i, hi', rfl, rfl, hrow, honly⟩ := hrel
      by_cases hlt : i < xs.length
      · have hrow0 := hrow
        have hc0 := World.ownsRow.cellAt hrow (i * 2) (by omega)
        have hf0 := World.ownsRow.frozenAt hrow (i * 2)
        have hc1 := World.ownsRow.cellAt hrow (i * 2 + 1) (by omega)
        have hf1 := World.ownsRow.frozenAt hrow (i * 2 + 1)
        have hst := (World.ownsRow.stored (World.ownsRow.stored hrow0 (i * 2) (.int .i64 (k + 2 * (i : Int)))).1 (i * 2 + 1) (.bool (((k + 2 * (i : Int) + 1) % 3 == 0)))).1
        rw [markStep_step k xs i hlt] at hst
        have HST := Lib.hid hst
        have hxi : (mkStep k i ++ xs.drop i)[i]? = some xs[i] := by
          rw [List.getElem?_append_right (by simp [mkStep_len]), mkStep_len]; simp [hlt]
        have hcx0 : ((mkStep k i ++ xs.drop i).flatMap cSt)[i * 2]? = some (.int .i64 xs[i].1) := flat_at cSt_len hxi 0 _ rfl
        rw [hcx0] at hc0
        have hcx1 : ((mkStep k i ++ xs.drop i).flatMap cSt)[i * 2 + 1]? = some (.bool xs[i].2) := flat_at cSt_len hxi 1 _ rfl
        rw [hcx1] at hc1
        clear hcx0 hcx1 hxi hst hrow hrow0 hr
        go_wp2
        go_roundw
        case rel => exact ⟨i + 1, by omega, by go_num, by go_num, HST.out, ((honly.setCell (.inl ⟨hg, hglt⟩) _).setCell (.inl ⟨hg, hglt⟩) _)⟩
        case measure => simp [intOf]; omega
      · obtain rfl : i = xs.length := by omega
        have hown : Own lo hi wr e cSt 2 (.slice (some ⟨g, 0, none⟩) xs.length cap) (mkStep k xs.length) := by
          refine ⟨?_, fun g' hg' => by cases hg'; exact hglt⟩
          rw [mkStep_len]
          simpa using hrow
        clear hrow hr
        go_wp2
        go_ret
        exact ⟨rfl, hown, honly⟩
set_option maxHeartbeats 4000000 in
theorem heldStepS_any (v : Value) (n : Nat) (k : Int) (w : World) (hv : SlE w cSt 2 v (mkStep k n)) (hk : 0 ≤ k) (hb : k + 2 * n ≤ 4611686018427387904) :
    Calls Tryz.prog 45 #[v, .int .i64 k] w fun en w' => en = .returned (.int .i64 (k + 2 * n)) ∧ Below w.heap.size w w' := by
  obtain ⟨A, c, rfl, hl, hm, hx⟩ := hv
  rw [mkStep_len] at hl
  simp only [mkStep_len]
  unfold maxLen at hm
  go_enter Tryz.func45, Tryz.ntmps45
  go_wp2
  go_loopw [1, 5] (fun kk ii wr => ∃ (i : Nat) (u : World), i ≤ n ∧ kk = .int .i64 (k + 2 * i) ∧ ii = .int .i64 i ∧ wr = ext w u) (fun _ ii _ => n - (intOf ii).toNat)
  case atStart => exact ⟨0, w, Nat.zero_le _, by simp, rfl, ext_self w⟩
  case round =>
    obtain ⟨i, u, hi', rfl, rfl, rfl⟩ := hrel
    by_cases hlt : i < n
    · obtain ⟨b, o, rfl, -, hb1, hc⟩ := hx i _ (mkStep_at k hlt)
      have c0 := hc 0 _ rfl
      have c1 := hc 1 _ rfl
      simp only [Nat.add_zero] at c0
      clear hc hx
      go_wp2
      go_roundw
      case rel => exact ⟨i + 1, u, by omega, by go_num, by go_num, rfl⟩
      case measure => simp [intOf]; omega
    · obtain rfl : i = n := by omega
      go_wp2
      go_ret
      exact ⟨rfl, ext_below _ _⟩
theorem elStep : ElemOk Tryz.prog 57 86 (.agg #[.int .i64 0, .bool false]) 2 16 := ⟨Tryz.underlying57, by kernel_rfl, rfl, by omega⟩
end Go.Proofs.YtpbfdmfkmbdpkaaGreat

/- Walks in the laws' helpers: measured, copied, compared, marked, looked at. -/
namespace Go.Proofs.YtpbfdmfkmbdpkaaGreat
set_option linter.unusedVariables false
set_option linter.unusedSimpArgs false
open Go.ChangeShapes Go.WideShapes Go.ChangeAt Go.RowKit
attribute [local go_sem] ext_cell ext_frozen ext_lt ext_lt1 ext_lt2 ext_lt3 ltn2 ltn3 ltn13 lts1 lts2 lts3

def WkO (lo hi : Nat) (w : World) (v : Value) (k : Wk) : Prop :=
  ∃ ss, v = .agg #[.int .i64 k.1, ss] ∧ Own lo hi w 86 cSt 2 ss k.2
theorem WkO.view {lo hi : Nat} {w : World} {v : Value} {k : Wk} (h : WkO lo hi w v k) : WkV lo hi w v k := by
  obtain ⟨ss, rfl, h1⟩ := h
  exact ⟨ss, rfl, h1.sl cSt_len⟩
theorem WkO.below {lo hi : Nat} {w w' : World} {v : Value} {k : Wk} (h : WkO lo hi w v k) {B : Nat} (hb : Below B w w') (hB : hi ≤ B) : WkO lo hi w' v k := by
  obtain ⟨ss, rfl, h1⟩ := h
  exact ⟨ss, rfl, h1.below hb hB⟩
theorem WkO.only {lo hi : Nat} {w w' : World} {v : Value} {k : Wk} (h : WkO lo hi w v k) {l r : Nat} (hb : Only l r w w') (ho : hi ≤ l ∨ r ≤ lo) : WkO lo hi w' v k := by
  obtain ⟨ss, rfl, h1⟩ := h
  exact ⟨ss, rfl, h1.only hb ho⟩
theorem WkO.mono {lo hi : Nat} {w : World} {v : Value} {k : Wk} (h : WkO lo hi w v k) {lo' hi' : Nat} (h1 : lo' ≤ lo) (h2 : hi ≤ hi') : WkO lo' hi' w v k := by
  obtain ⟨ss, rfl, g1⟩ := h
  exact ⟨ss, rfl, g1.mono h1 h2⟩




set_option maxHeartbeats 1000000 in
theorem eqWalk_same (v1 v2 : Value) (k : Wk) (w : World) (hv1 : WkV 0 w.heap.size w v1 k) (hv2 : WkV 0 w.heap.size w v2 k) :
    Calls Tryz.prog 35 #[v1, v2] w fun e w' => e = .returned (.bool true) ∧ Below w.heap.size w w' := by
  obtain ⟨ss1, rfl, hs1⟩ := hv1
  obtain ⟨ss2, rfl, hs2⟩ := hv2
  obtain ⟨st, steps⟩ := k
  have hb0 : Below w.heap.size w ((w.alloc (.cells #[.int .i64 st, ss1] 59)).alloc (.cells #[.int .i64 st, ss2] 59)) := ((Below.refl _ _).alloc (Nat.le_refl _) _).alloc (by simp) _
  go_enter Tryz.func35, Tryz.ntmps35
  go_wp2_with fail
  refine (eqStepS_same ss1 ss2 steps _ (SlE.keep hs1 hb0) (SlE.keep hs2 hb0)).mono ?_
  rintro e w1 ⟨rfl, hb1⟩
  go_wp2_with fail
  go_ret
  exact ⟨rfl, below_trans hb0 hb1⟩


end Go.Proofs.YtpbfdmfkmbdpkaaGreat

/- Lists of walks of the call's own: an outer row of walks, each with a row of steps of its own, no two in one block; compared, marked and held by the laws. -/
namespace Go.Proofs.YtpbfdmfkmbdpkaaGreat
set_option linter.unusedVariables false
set_option linter.unusedSimpArgs false
open Go.ChangeShapes Go.WideShapes Go.ChangeAt Go.RowKit
attribute [local go_sem] ext_cell ext_frozen ext_lt ext_lt1 ext_lt2 ext_lt3 ltn2 ltn3 ltn13 lts1 lts2 lts3

def cWv (z : Int × Value) : List Value := [.int .i64 z.1, z.2]
theorem cWv_len (z : Int × Value) : (cWv z).length = 2 := rfl
abbrev snds (zs : List (Int × Value)) : List Value := zs.map (·.2)
theorem snds_at {zs : List (Int × Value)} {i : Nat} {u : Value} : (snds zs)[i]? = some u ↔ ∃ z, zs[i]? = some z ∧ z.2 = u := by
  rw [snds, List.getElem?_map]
  cases zs[i]? with
  | none => simp
  | some z => simp
structure NW (lo : Nat) (w : World) (v : Value) (zs : List (Int × Value)) (ks : List Wk) : Prop where
  own : w.ownsRow lo 59 2 v zs.length (zs.flatMap cWv)
  len : zs.length = ks.length
  rows : ∀ (i : Nat) (z : Int × Value) (k : Wk), zs[i]? = some z → ks[i]? = some k → z.1 = k.1 ∧ w.ownsRow lo 86 2 z.2 k.2.length (k.2.flatMap cSt)
  dis : (blks (v :: snds zs)).Nodup
section
variable {lo : Nat} {w w' : World} {v : Value} {zs : List (Int × Value)} {ks : List Wk}
theorem NW.lt (h : NW lo w v zs ks) : ∀ b ∈ blks (v :: snds zs), lo ≤ b ∧ b < w.heap.size := by
  intro b hb
  obtain ⟨i, u, hu, hbu⟩ := mem_blks.1 hb
  cases i with
  | zero =>
    simp only [List.getElem?_cons_zero, Option.some.injEq] at hu
    subst hu
    exact h.own.lt b hbu
  | succ i =>
    rw [List.getElem?_cons_succ] at hu
    obtain ⟨z, hz, rfl⟩ := snds_at.1 hu
    have hi : i < ks.length := by rw [← h.len]; exact (List.getElem?_eq_some_iff.1 hz).1
    exact (h.rows i z _ hz (List.getElem?_eq_getElem hi)).2.lt b hbu
theorem NW.blocks (h : NW lo w v zs ks) (hb : ∀ b ∈ blks (v :: snds zs), w'.heap[b]? = w.heap[b]?) : NW lo w' v zs ks :=
  ⟨ownsRow_block h.own fun g hg => hb g (mem_blks.2 ⟨0, v, rfl, hg⟩), h.len,
    fun i z k hz hk => ⟨(h.rows i z k hz hk).1, ownsRow_block (h.rows i z k hz hk).2 fun g hg => hb g (mem_blks.2 ⟨i + 1, z.2, by simpa using snds_at.2 ⟨z, hz, rfl⟩, hg⟩)⟩, h.dis⟩
theorem NW.below (h : NW lo w v zs ks) (hb : Below w.heap.size w w') : NW lo w' v zs ks := h.blocks fun b hm => hb.block b (h.lt b hm).2
theorem NW.mono (h : NW lo w v zs ks) {lo' : Nat} (hl : lo' ≤ lo) : NW lo' w v zs ks :=
  ⟨ownsRow_mono h.own hl, h.len, fun i z k hz hk => ⟨(h.rows i z k hz hk).1, ownsRow_mono (h.rows i z k hz hk).2 hl⟩, h.dis⟩
theorem NW.start (h : w.ownsRow lo 59 2 v 0 []) : NW lo w v [] [] :=
  ⟨h, rfl, fun i z k hz _ => by simp at hz, by cases hv : v.ownBlock <;> simp [hv]⟩
theorem NW.shape (h : NW lo w v zs ks) : ∃ A c, v = .slice A ks.length c ∧ ks.length ≤ c ∧ c ≤ maxLen := by
  obtain ⟨h1, h2⟩ := h.own
  rcases h2 with ⟨rfl, h3⟩ | ⟨g, cap, cur, rfl, h4, h5, h6, h7, r⟩
  · exact ⟨none, 0, by rw [← h.len, h3], by rw [← h.len, h3]; exact Nat.le_refl _, by unfold maxLen; omega⟩
  · exact ⟨_, cap, by rw [h.len], by rw [← h.len]; exact h6, h7⟩
theorem dis_push {u v' : Value} {us : List Value} {H : Nat} (hdis : (blks (v :: us)).Nodup) (hn : ∀ b, u.ownBlock = some b → b ∉ blks (v :: us)) (hlt : ∀ b ∈ blks (v :: us), b < H) (hul : ∀ b, u.ownBlock = some b → b < H)
    (hat : ∀ g, v'.ownBlock = some g → v.ownBlock = some g ∨ H ≤ g) : (blks (v' :: (us ++ [u]))).Nodup := by
  have hv0 : ∀ b, v.ownBlock = some b → b ∉ blks us := fun b hb => by
    rw [blks, List.filterMap_cons, hb] at hdis
    exact (List.nodup_cons.1 hdis).1
  have hus : (blks us).Nodup := by
    cases hv : v.ownBlock with
    | none => simpa [blks, List.filterMap_cons, hv] using hdis
    | some b => rw [blks, List.filterMap_cons, hv] at hdis; exact (List.nodup_cons.1 hdis).2
  have hnu : ∀ b, u.ownBlock = some b → b ∉ blks us := fun b hb hm => hn b hb (by
    obtain ⟨i, u', h1, h2⟩ := mem_blks.1 hm
    exact mem_blks.2 ⟨i + 1, u', by simpa using h1, h2⟩)
  have hall : (blks (us ++ [u])).Nodup := by
    rw [blks, List.filterMap_append]
    cases hub : u.ownBlock with
    | none => simpa [List.filterMap_cons, hub] using hus
    | some b =>
      rw [List.filterMap_cons, hub]
      refine List.nodup_append.2 ⟨hus, by simp, ?_⟩
      intro x hx y hy e
      simp only [List.filterMap_nil, List.mem_cons, List.not_mem_nil, or_false] at hy
      subst hy
      subst e
      exact hnu _ hub hx
  rw [blks, List.filterMap_cons]
  cases hv' : v'.ownBlock with
  | none => exact hall
  | some g =>
    refine List.nodup_cons.2 ⟨fun hm => ?_, hall⟩
    obtain ⟨i, u', hi, hb⟩ := mem_blks.1 hm
    rcases Nat.lt_or_ge i us.length with hl | hge
    · rw [List.getElem?_append_left hl] at hi
      rcases hat g hv' with h1 | h1
      · exact hv0 g h1 (mem_blks.2 ⟨i, u', hi, hb⟩)
      · have := hlt g (mem_blks.2 ⟨i + 1, u', by simpa using hi, hb⟩)
        omega
    · have hi2 := (List.getElem?_eq_some_iff.1 hi).1
      simp only [List.length_append, List.length_singleton] at hi2
      obtain rfl : i = us.length := by omega
      have e1 : u = u' := by simpa using hi
      subst e1
      rcases hat g hv' with h1 | h1
      · exact hn g hb (mem_blks.2 ⟨0, v, rfl, h1⟩)
      · have := hul g hb
        omega
theorem NW.push (h : NW lo w v zs ks) {n : Int} {u : Value} {xs : List St} (hu : w.ownsRow lo 86 2 u xs.length (xs.flatMap cSt)) (hn : ∀ b, u.ownBlock = some b → b ∉ blks (v :: snds zs))
    {v' : Value} (hg : w.grownBy w' v.ownBlock) (hr : w'.ownsRow lo 59 2 v' (zs ++ [(n, u)]).length ((zs ++ [(n, u)]).flatMap cWv)) (hat : ∀ g, v'.ownBlock = some g → v.ownBlock = some g ∨ w.heap.size ≤ g) :
    NW lo w' v' (zs ++ [(n, u)]) (ks ++ [(n, xs)]) := by
  have hdis := h.dis
  have hkeep : ∀ (u' : Value) (m : Nat) (cs : List Value), w.ownsRow lo 86 2 u' m cs → (∀ b, u'.ownBlock = some b → v.ownBlock ≠ some b) → w'.ownsRow lo 86 2 u' m cs := fun u' m cs ho hne => by
    refine ho.kept hg ?_
    cases hb : u'.ownBlock with
    | none => exact .inl rfl
    | some b => exact .inr fun e => hne b hb e.symm
  have hv0 : ∀ b, v.ownBlock = some b → b ∉ blks (snds zs) := fun b hb => by
    rw [blks, List.filterMap_cons, hb] at hdis
    exact (List.nodup_cons.1 hdis).1
  refine ⟨hr, by simp [h.len], fun i z k hz hk => ?_, ?_⟩
  · rcases Nat.lt_or_ge i zs.length with hlt | hge
    · rw [List.getElem?_append_left hlt] at hz
      rw [List.getElem?_append_left (by rw [← h.len]; exact hlt)] at hk
      have hrow := h.rows i z k hz hk
      exact ⟨hrow.1, hkeep _ _ _ hrow.2 fun b hb hvb => hv0 b hvb (mem_blks.2 ⟨i, z.2, snds_at.2 ⟨z, hz, rfl⟩, hb⟩)⟩
    · have hi2 := (List.getElem?_eq_some_iff.1 hz).1
      simp only [List.length_append, List.length_singleton] at hi2
      obtain rfl : i = zs.length := by omega
      have e1 : (n, u) = z := by simpa using hz
      have e2 : (n, xs) = k := by rw [h.len] at hk; simpa using hk
      subst e1 e2
      exact ⟨rfl, hkeep _ _ _ hu fun b hb hvb => hn b hb (mem_blks.2 ⟨0, v, rfl, hvb⟩)⟩
  · have e : snds (zs ++ [(n, u)]) = snds zs ++ [u] := by simp [snds]
    rw [e]
    exact dis_push hdis hn (fun b hb => (h.lt b hb).2) (fun b hb => (hu.lt b hb).2) hat
/-- what is read of it: walk i -/
theorem NW.at (h : NW lo w v zs ks) {i : Nat} {k : Wk} (hk : ks[i]? = some k) : ∃ g cap A c, v = .slice (some ⟨g, 0, none⟩) ks.length cap ∧ zs[i]? = some (k.1, .slice A k.2.length c) ∧ lo ≤ g ∧ g < w.heap.size ∧ w.cell? ⟨g, i * 2, none⟩ = some (.int .i64 k.1) ∧ w.cell? ⟨g, i * 2 + 1, none⟩ = some (.slice A k.2.length c) ∧ k.2.length ≤ c ∧ c ≤ maxLen := by
  have hi : i < zs.length := by rw [h.len]; exact (List.getElem?_eq_some_iff.1 hk).1
  have hz : zs[i]? = some zs[i] := List.getElem?_eq_getElem hi
  obtain ⟨h1, hr⟩ := h.rows i _ k hz hk
  generalize zs[i] = z at hz h1 hr
  obtain ⟨z1, u⟩ := z
  simp only at h1 hr
  subst h1
  obtain ⟨A, c, rfl, hl, hm, -⟩ := (Own.of_row (xs := k.2) hr rfl rfl).sl cSt_len
  have hown := h.own
  have hlt := h.own.lt
  have hown2 := hown
  obtain ⟨h1, h2⟩ := hown2
  rcases h2 with ⟨rfl, h3⟩ | ⟨g, cap, cur, rfl, r⟩
  · omega
  · refine ⟨g, cap, A, c, by rw [h.len], hz, (hlt g rfl).1, (hlt g rfl).2, ?_, ?_, hl, hm⟩
    · rw [World.ownsRow.cellAt hown (i * 2) (by omega)]
      exact flat_at cWv_len hz 0 _ rfl
    · rw [World.ownsRow.cellAt hown (i * 2 + 1) (by omega)]
      exact flat_at cWv_len hz 1 _ rfl
theorem flatW_len (l : List (Int × Value)) : (l.flatMap cWv).length = l.length * 2 := by
  induction l with
  | nil => rfl
  | cons x l ih => simp only [List.flatMap_cons, List.length_append, cWv_len, ih, List.length_cons]; omega
theorem flatW_set : ∀ (zs : List (Int × Value)) (i : Nat) (z : Int × Value) (n : Int), zs[i]? = some z → (zs.flatMap cWv).set (i * 2) (.int .i64 n) = (zs.set i (n, z.2)).flatMap cWv
  | [], i, z, n, h => by simp at h
  | y :: zs, 0, z, n, h => by
    simp only [List.getElem?_cons_zero, Option.some.injEq] at h
    subst h
    simp [cWv]
  | y :: zs, i + 1, z, n, h => by
    simp only [List.getElem?_cons_succ] at h
    rw [List.flatMap_cons, List.set_append_right _ _ (by rw [cWv_len]; omega), cWv_len, show (i + 1) * 2 - 2 = i * 2 by omega, flatW_set zs i z n h, List.set_cons_succ, List.flatMap_cons]
theorem snds_set {i : Nat} {z : Int × Value} (hz : zs[i]? = some z) (n : Int) : snds (zs.set i (n, z.2)) = snds zs := by
  refine List.ext_getElem? fun j => ?_
  rw [snds, snds, List.getElem?_map, List.getElem?_map]
  by_cases h : i = j
  · subst h
    have hi := (List.getElem?_eq_some_iff.1 hz).1
    rw [List.getElem?_set_self hi, hz]; rfl
  · rw [List.getElem?_set_ne h]
/-- walk i's start is written -/
theorem NW.setStart (h : NW lo w v zs ks) {g cap : Nat} (hv : v = .slice (some ⟨g, 0, none⟩) ks.length cap) {i : Nat} {z : Int × Value} {k : Wk} (hz : zs[i]? = some z) (hk : ks[i]? = some k) (n : Int) :
    NW lo (w.setCell ⟨g, i * 2, none⟩ (.int .i64 n)) v (zs.set i (n, z.2)) (ks.set i (n, k.2)) := by
  have hown := h.own
  have hdis := h.dis
  have hgb : v.ownBlock = some g := by rw [hv]; rfl
  have hown' : w.ownsRow lo 59 2 (.slice (some ⟨g, 0, none⟩) ks.length cap) ks.length (zs.flatMap cWv) := by rw [← hv, ← h.len]; exact hown
  have hst := (World.ownsRow.stored hown' (i * 2) (.int .i64 n)).1
  refine ⟨?_, by simp [h.len], fun j z' k' hz' hk' => ?_, by rw [snds_set hz]; exact hdis⟩
  · rw [List.length_set, ← flatW_set zs i z n hz, hv, h.len]; exact hst
  · have hne : ∀ (j : Nat) (z' : Int × Value), zs[j]? = some z' → ∀ b, z'.2.ownBlock = some b → b ≠ g := fun j z' hz' b hb e => by
      subst e
      have := filterMap_inj (i := 0) (j := j + 1) hdis (x := v) (y := z'.2) rfl (by simpa using snds_at.2 ⟨z', hz', rfl⟩) hgb hb
      omega
    have hbk : ∀ (j : Nat) (z' : Int × Value) (k' : Wk), zs[j]? = some z' → ks[j]? = some k' → (w.setCell ⟨g, i * 2, none⟩ (.int .i64 n)).ownsRow lo 86 2 z'.2 k'.2.length (k'.2.flatMap cSt) := fun j z' k' hz' hk' =>
      ownsRow_block (h.rows j z' k' hz' hk').2 fun b hb => Below.heap_setCell _ _ _ _ (hne j z' hz' b hb)
    by_cases hij : i = j
    · subst hij
      have hi := (List.getElem?_eq_some_iff.1 hz).1
      have hi2 := (List.getElem?_eq_some_iff.1 hk).1
      rw [List.getElem?_set_self hi] at hz'
      rw [List.getElem?_set_self hi2] at hk'
      injection hz' with hz'
      injection hk' with hk'
      subst hz' hk'
      exact ⟨rfl, hbk i z k hz hk⟩
    · rw [List.getElem?_set_ne hij] at hz' hk'
      exact ⟨(h.rows j z' k' hz' hk').1, hbk j z' k' hz' hk'⟩
/-- walk i's steps are written -/
theorem NW.turn (h : NW lo w v zs ks) {i : Nat} {z : Int × Value} {k : Wk} {xs' : List St} (hz : zs[i]? = some z) (hk : ks[i]? = some k)
    (hr : w'.ownsRow lo 86 2 z.2 xs'.length (xs'.flatMap cSt)) (hb : ∀ b ∈ blks (v :: snds zs), z.2.ownBlock ≠ some b → w'.heap[b]? = w.heap[b]?) : NW lo w' v zs (ks.set i (k.1, xs')) := by
  have hdis := h.dis
  have hzi : (v :: snds zs)[i + 1]? = some z.2 := by simpa using snds_at.2 ⟨z, hz, rfl⟩
  refine ⟨ownsRow_block h.own fun g hg => hb g (mem_blks.2 ⟨0, v, rfl, hg⟩) fun e => ?_, by simp [h.len], fun j z2 k2 hj hx => ?_, hdis⟩
  · have := filterMap_inj (i := 0) (j := i + 1) hdis rfl hzi hg e
    omega
  · by_cases hij : i = j
    · subst hij
      rw [hz] at hj
      injection hj with hj
      subst hj
      rw [List.getElem?_set_self (List.getElem?_eq_some_iff.1 hk).1] at hx
      injection hx with hx
      subst hx
      exact ⟨(h.rows i z k hz hk).1, hr⟩
    · rw [List.getElem?_set_ne hij] at hx
      have hzj : (v :: snds zs)[j + 1]? = some z2.2 := by simpa using snds_at.2 ⟨z2, hj, rfl⟩
      refine ⟨(h.rows j z2 k2 hj hx).1, ownsRow_block (h.rows j z2 k2 hj hx).2 fun g hg => hb g (mem_blks.2 ⟨j + 1, z2.2, hzj, hg⟩) fun e => ?_⟩
      have := filterMap_inj (i := i + 1) (j := j + 1) hdis hzi hzj e hg
      omega
end
/-- a list of walks as it is read -/
def WSV (lo hi : Nat) (w : World) (v : Value) (ks : List Wk) : Prop :=
  ∃ zs : List (Int × Value), SlI lo hi w cWv 2 v zs ∧ zs.length = ks.length ∧ ∀ (i : Nat) (z : Int × Value) (k : Wk), zs[i]? = some z → ks[i]? = some k → z.1 = k.1 ∧ SlI lo hi w cSt 2 z.2 k.2
theorem WSV.all {lo hi : Nat} {w : World} {v : Value} {ks : List Wk} (h : WSV lo hi w v ks) (hh : hi ≤ w.heap.size) : WSV 0 w.heap.size w v ks := by
  obtain ⟨zs, h1, h2, h3⟩ := h
  exact ⟨zs, h1.all hh, h2, fun i z k hz hk => ⟨(h3 i z k hz hk).1, (h3 i z k hz hk).2.all hh⟩⟩
def NWO (lo hi : Nat) (w : World) (v : Value) (ks : List Wk) : Prop := ∃ zs, NW lo w v zs ks ∧ ∀ b ∈ blks (v :: snds zs), b < hi
section
variable {lo hi : Nat} {w w' : World} {v : Value} {ks : List Wk}
theorem NWO.of {zs : List (Int × Value)} (h : NW lo w v zs ks) : NWO lo w.heap.size w v ks := ⟨zs, h, fun b hb => (h.lt b hb).2⟩
theorem NWO.view (h : NWO lo hi w v ks) : WSV lo hi w v ks := by
  obtain ⟨zs, h, hl⟩ := h
  refine ⟨zs, Own.sl ⟨h.own, fun g hg => hl g (mem_blks.2 ⟨0, v, rfl, hg⟩)⟩ cWv_len, h.len, fun i z k hz hk => ⟨(h.rows i z k hz hk).1, ?_⟩⟩
  exact Own.sl ⟨(h.rows i z k hz hk).2, fun g hg => hl g (mem_blks.2 ⟨i + 1, z.2, by simpa using snds_at.2 ⟨z, hz, rfl⟩, hg⟩)⟩ cSt_len
theorem NWO.below (h : NWO lo hi w v ks) {B : Nat} (hb : Below B w w') (hB : hi ≤ B) : NWO lo hi w' v ks := by
  obtain ⟨zs, h, hl⟩ := h
  exact ⟨zs, h.blocks fun b hm => hb.block b (by have := hl b hm; omega), hl⟩
theorem NWO.only (h : NWO lo hi w v ks) {l r : Nat} (hb : Only l r w w') (ho : hi ≤ l ∨ r ≤ lo) : NWO lo hi w' v ks := by
  obtain ⟨zs, h, hl⟩ := h
  exact ⟨zs, h.blocks fun b hm => hb.block b (h.lt b hm).2 (by have := hl b hm; have := (h.lt b hm).1; omega), hl⟩
theorem NWO.mono (h : NWO lo hi w v ks) {lo' hi' : Nat} (h1 : lo' ≤ lo) (h2 : hi ≤ hi') : NWO lo' hi' w v ks := by
  obtain ⟨zs, h, hl⟩ := h
  exact ⟨zs, h.mono h1, fun b hb => by have := hl b hb; omega⟩
end
/-- the marks in a list of walks -/
def mkW : Int → List Wk → List Wk
  | _, [] => []
  | k, x :: r => (k, mkStep (k + 1) x.2.length) :: mkW (k + 1 + 2 * (x.2.length : Nat)) r
def amtW : List Wk → Nat
  | [] => 0
  | x :: r => 1 + 2 * x.2.length + amtW r
theorem amtW_app : ∀ (l r : List Wk), amtW (l ++ r) = amtW l + amtW r
  | [], r => by simp [amtW]
  | x :: l, r => by simp only [List.cons_append, amtW, amtW_app l r]; omega
theorem mkW_len : ∀ (l : List Wk) (k : Int), (mkW k l).length = l.length
  | [], _ => rfl
  | x :: l, k => by simp [mkW, mkW_len l]
theorem mkW_app : ∀ (l r : List Wk) (k : Int), mkW k (l ++ r) = mkW k l ++ mkW (k + amtW l) r
  | [], r, k => by simp [mkW, amtW]
  | x :: l, r, k => by
    simp only [List.cons_append, mkW, mkW_app l r, amtW]
    congr 3
    omega
theorem amtW_take_le : ∀ (l : List Wk) (i : Nat), amtW (l.take i) ≤ amtW l
  | [], i => by simp [amtW]
  | x :: l, 0 => by simp [amtW]
  | x :: l, i + 1 => by simp only [List.take_succ_cons, amtW]; have := amtW_take_le l i; omega
theorem mkW_at (l : List Wk) (k : Int) (i : Nat) (x : Wk) (h : l[i]? = some x) : (mkW k l)[i]? = some (k + amtW (l.take i), mkStep (k + amtW (l.take i) + 1) x.2.length) := by
  have hi := (List.getElem?_eq_some_iff.1 h).1
  have hx := (List.getElem?_eq_some_iff.1 h).2
  have : l = l.take i ++ x :: l.drop (i + 1) := by
    rw [← hx, ← List.drop_eq_getElem_cons hi, List.take_append_drop]
  rw [this, mkW_app, mkW]
  have hl : (mkW k (l.take i)).length = i := by rw [mkW_len, List.length_take]; omega
  rw [List.getElem?_append_right (by omega), hl, Nat.sub_self]
  simp only [List.getElem?_cons_zero]
  rw [← this]
theorem amtW_snoc {l : List Wk} {i : Nat} {x : Wk} (h : l[i]? = some x) : amtW (l.take (i + 1)) = amtW (l.take i) + 1 + 2 * x.2.length := by
  rw [take_snoc h, amtW_app]; simp only [amtW]; omega

set_option maxHeartbeats 2000000 in
theorem eqWalkS_same (v1 v2 : Value) (ks : List Wk) (w : World) (hv1 : WSV 0 w.heap.size w v1 ks) (hv2 : WSV 0 w.heap.size w v2 ks) :
    Calls Tryz.prog 11 #[v1, v2] w fun e w' => e = .returned (.bool true) ∧ Below w.heap.size w w' := by
  obtain ⟨us1, ⟨A1, c1, rfl, hl1, hm1, hx1⟩, hlen1, hr1⟩ := hv1
  obtain ⟨us2, ⟨A2, c2, rfl, hl2, hm2, hx2⟩, hlen2, hr2⟩ := hv2
  rw [hlen1] at hl1 ⊢
  rw [hlen2] at hl2 ⊢
  unfold maxLen at hm1 hm2
  have HL1 := Lib.hid hlen1
  have HL2 := Lib.hid hlen2
  clear hlen1 hlen2
  go_enter Tryz.func11, Tryz.ntmps11
  go_wp2
  go_loopw [5] (fun i wr => ∃ (j : Nat) (u : World), j ≤ ks.length ∧ i = .int .i64 j ∧ wr = ext w u) (fun i _ => ks.length - (intOf i).toNat)
  case atStart => exact ⟨0, w, Nat.zero_le _, rfl, ext_self w⟩
  case round =>
    obtain ⟨j, u, hj, rfl, rfl⟩ := hrel
    by_cases hlt : j < ks.length
    · have hxk := List.getElem?_eq_getElem hlt
      obtain ⟨⟨p1, a1⟩, ha1⟩ : ∃ a, us1[j]? = some a := ⟨_, List.getElem?_eq_getElem (by have := HL1.out; omega)⟩
      obtain ⟨⟨p2, a2⟩, ha2⟩ : ∃ a, us2[j]? = some a := ⟨_, List.getElem?_eq_getElem (by have := HL2.out; omega)⟩
      obtain ⟨b1, o1, rfl, -, hb1, hc1⟩ := hx1 j _ ha1
      obtain ⟨b2, o2, rfl, -, hb2, hc2⟩ := hx2 j _ ha2
      obtain ⟨e1, g1⟩ := hr1 j _ _ ha1 hxk
      obtain ⟨e2, g2⟩ := hr2 j _ _ ha2 hxk
      generalize ks[j] = x at e1 e2 g1 g2
      simp only at e1 e2 g1 g2
      subst e1
      subst e2
      have c10 := hc1 0 _ rfl
      have c20 := hc2 0 _ rfl
      have c11 := hc1 1 _ rfl
      have c21 := hc2 1 _ rfl
      simp only [Nat.add_zero] at c10 c20
      clear hc1 hc2 hx1 hx2 hr1 hr2 hxk ha1 ha2
      have HEQ := Lib.hid (fun (W : World) (hW : Below w.heap.size w W) => eqWalk_same _ _ x W ⟨_, rfl, SlE.keep g1 hW⟩ ⟨_, rfl, SlE.keep g2 hW⟩)
      go_wp2
      refine wp_region_ext_lit (by kernel_rfl) (by kernel_rfl) ?_
      repeat (go_big_quiet_step ((go_at_call 35; exact Calls.ext_of (HEQ.out _ (below_trans (ext_below _ _) (ext_below _ _))))))
      refine wpQuiet_nil ?_
      intro _ hw'
      obtain ⟨u2, hw''⟩ := hw'
      subst hw''
      go_wp2
      go_roundw
      case rel =>
        obtain ⟨y, hy⟩ := ext_ext w u u2
        exact ⟨j + 1, y, by omega, by go_num, hy⟩
      case measure => simp [intOf]; omega
    · go_wp2
      go_ret
      exact ⟨rfl, ext_below _ _⟩
set_option maxHeartbeats 2000000 in
theorem heldWalkS_any (v : Value) (ks : List Wk) (k : Int) (w : World) (hv : WSV 0 w.heap.size w v (mkW k ks)) (hk : 0 ≤ k) (hb : k + amtW ks ≤ 4611686018427387904) :
    Calls Tryz.prog 17 #[v, .int .i64 k] w fun en w' => en = .returned (.int .i64 (k + amtW ks)) ∧ Below w.heap.size w w' := by
  obtain ⟨zs, ⟨A, c, rfl, hl, hm, hx⟩, hul, hrows⟩ := hv
  rw [mkW_len] at hul
  rw [hul] at hl ⊢
  have HU := Lib.hid hul
  clear hul
  unfold maxLen at hm
  have hz := fun i => amtW_take_le ks i
  go_enter Tryz.func17, Tryz.ntmps17
  go_wp2
  go_loopw [1, 5] (fun kk ii wr => ∃ (i : Nat) (u : World), i ≤ ks.length ∧ kk = .int .i64 (k + amtW (ks.take i)) ∧ ii = .int .i64 i ∧ wr = ext w u) (fun _ ii _ => ks.length - (intOf ii).toNat)
  case atStart => exact ⟨0, w, Nat.zero_le _, by simp [amtW], rfl, ext_self w⟩
  case round =>
    obtain ⟨i, uw, hi', rfl, rfl, rfl⟩ := hrel
    by_cases hlt : i < ks.length
    · obtain ⟨⟨p, u⟩, hu⟩ : ∃ u, zs[i]? = some u := ⟨_, List.getElem?_eq_getElem (by have := HU.out; omega)⟩
      have hxi : ks[i]? = some ks[i] := List.getElem?_eq_getElem hlt
      obtain ⟨e1, hrow⟩ := hrows i _ _ hu (mkW_at ks k i _ hxi)
      obtain ⟨b, o, rfl, -, hb2, hc⟩ := hx i _ hu
      have c0 := hc 0 _ rfl
      have c1 := hc 1 _ rfl
      simp only [Nat.add_zero] at c0
      have hsum := amtW_snoc hxi
      have hz1 := hz i
      have hz2 := hz (i + 1)
      simp only at e1 hrow
      subst e1
      generalize ks[i] = x at hrow hsum
      rw [hsum] at hz2
      have HS := Lib.hid hsum
      obtain ⟨N, hN⟩ : ∃ N, N = amtW (ks.take i) := ⟨_, rfl⟩
      rw [← hN] at hz1 hz2 hrow c0 HS ⊢
      have hrow := SlE.keep hrow (ext_below w uw)
      clear hc hx hu hxi hsum hz hrows hN
      have hne : ((k + (N : Int)) != (k + (N : Int))) = false := by simp
      have hge : decide (k + (N : Int) + 1 + 2 * ((x.2.length : Nat) : Int) < 0) = false := by simp; omega
      go_wp2_with fail
      refine (heldStepS_any u x.2.length (k + N + 1) _ hrow (by omega) (by omega)).mono ?_
      rintro e w2 ⟨rfl, hb3⟩
      go_wp2_with fail
      go_roundw
      case rel =>
        obtain ⟨y, hy⟩ := ext_of (below_trans (ext_below w uw) hb3)
        exact ⟨i + 1, y, by omega, by rw [HS.out]; go_num, by go_num, hy⟩
      case measure => simp [intOf]; omega
    · obtain rfl : i = ks.length := by omega
      clear hx hz hrows
      go_wp2_with fail
      go_ret
      exact ⟨ret_int (by simp), ext_below _ _⟩
end Go.Proofs.YtpbfdmfkmbdpkaaGreat

/- The laws' marks in a list of walks. -/
namespace Go.Proofs.YtpbfdmfkmbdpkaaGreat
set_option linter.unusedVariables false
set_option linter.unusedSimpArgs false
open Go.ChangeShapes Go.WideShapes Go.ChangeAt Go.RowKit
attribute [local go_sem] ext_cell ext_frozen ext_lt ext_lt1 ext_lt2 ext_lt3 ltn2 ltn3 ltn13 lts1 lts2 lts3

theorem mkW_next (ks : List Wk) (k : Int) {i : Nat} {x : Wk} (h : ks[i]? = some x) :
    ((mkW k (ks.take i) ++ ks.drop i).set i (k + amtW (ks.take i), x.2)).set i (k + amtW (ks.take i), mkStep (k + amtW (ks.take i) + 1) x.2.length) = mkW k (ks.take (i + 1)) ++ ks.drop (i + 1) := by
  have hi := (List.getElem?_eq_some_iff.1 h).1
  have hd2 := List.drop_eq_getElem_cons hi
  rw [(List.getElem?_eq_some_iff.1 h).2] at hd2
  have hl : (mkW k (ks.take i)).length = i := by rw [mkW_len, List.length_take]; omega
  rw [take_snoc h, mkW_app, hd2, List.set_append_right _ _ (by omega), hl, Nat.sub_self, List.set_cons_zero, List.set_append_right _ _ (by omega), hl, Nat.sub_self, List.set_cons_zero]
  simp [mkW]
set_option maxHeartbeats 4000000 in
theorem markNW_any (lo hi : Nat) (v : Value) (ks : List Wk) (k : Int) (w : World) (hv : NWO lo hi w v ks) (hk : 0 ≤ k) (hb : k + amtW ks ≤ 4611686018427387904) (hhi : hi ≤ w.heap.size) :
    Calls Tryz.prog 16 #[v, .int .i64 k] w fun en w' => en = .returned (.int .i64 (k + amtW ks)) ∧ NWO lo hi w' v (mkW k ks) ∧ Only lo hi w w' := by
  obtain ⟨zs, hnw, hlt⟩ := hv
  obtain ⟨A, c, rfl, hl, hm⟩ := hnw.shape
  have HN0 := Lib.hid hnw
  have HLT := Lib.hid hlt
  unfold maxLen at hm
  have hz := fun i => amtW_take_le ks i
  clear hnw hlt
  go_enter Tryz.func16, Tryz.ntmps16
  go_wp2
  go_loopw [1, 5] (fun kk ii wr => ∃ (i : Nat) (ys : List (Int × Value)), i ≤ ks.length ∧ kk = .int .i64 (k + amtW (ks.take i)) ∧ ii = .int .i64 i ∧ snds ys = snds zs ∧ NW lo wr (.slice A ks.length c) ys (mkW k (ks.take i) ++ ks.drop i) ∧ Only lo hi w wr) (fun _ ii _ => ks.length - (intOf ii).toNat)
  case atStart => exact ⟨0, zs, Nat.zero_le _, by simp [amtW], rfl, rfl, by simpa [mkW] using HN0.out, Only.refl _ _ _⟩
  case round =>
    obtain ⟨i, ys, hi', rfl, rfl, hsn, hns, honly⟩ := hrel
    have HNS := Lib.hid hns
    have HSN := Lib.hid hsn
    clear hns hsn
    by_cases hlt : i < ks.length
    · have hxi : ks[i]? = some ks[i] := List.getElem?_eq_getElem hlt
      have hz1 := hz i
      have hz2 := hz (i + 1)
      generalize ks[i] = x at hxi
      have hsum := amtW_snoc hxi
      have hmk := mkW_next ks k hxi
      have hlen : (mkW k (ks.take i) ++ ks.drop i).length = ks.length := by rw [List.length_append, mkW_len, List.length_take, List.length_drop]; omega
      have hmi : (mkW k (ks.take i) ++ ks.drop i)[i]? = some x := by
        rw [List.getElem?_append_right (by rw [mkW_len, List.length_take]; omega), mkW_len, List.length_take, List.drop_eq_getElem_cons hlt, (List.getElem?_eq_some_iff.1 hxi).2]
        simp [Nat.min_eq_left (Nat.le_of_lt hlt)]
      obtain ⟨g, cap, A1, c1, hv1, hzi, hgl0, hgl, d0, d1, -, -⟩ := HNS.out.at hmi
      rw [hlen] at hv1
      injection hv1 with e1 e2 e3
      subst e1
      subst e3
      obtain ⟨N, hN⟩ : ∃ N, N = amtW (ks.take i) := ⟨_, rfl⟩
      rw [← hN] at hz1 hsum hmk ⊢
      rw [hsum] at hz2
      have hghi : g < hi := HLT.out g (by rw [← HSN.out]; exact mem_blks.2 ⟨0, _, rfl, rfl⟩)
      have hn1 := HNS.out.setStart (n := k + (N : Int)) (g := g) (cap := c) (by rw [hlen]) hzi hmi
      have hzi1 : (ys.set i (k + (N : Int), Value.slice A1 x.2.length c1))[i]? = some (k + (N : Int), .slice A1 x.2.length c1) := List.getElem?_set_self (List.getElem?_eq_some_iff.1 hzi).1
      have hmi1 : ((mkW k (ks.take i) ++ ks.drop i).set i (k + (N : Int), x.2))[i]? = some (k + (N : Int), x.2) := List.getElem?_set_self (List.getElem?_eq_some_iff.1 hmi).1
      have hri := (hn1.rows i _ _ hzi1 hmi1).2
      simp only at hri
      obtain ⟨l, r, hown, htight, hlr⟩ := own_tight hri
      have hown0 := HNS.out.own
      rw [HNS.out.len, hlen] at hown0
      have hf0 := World.ownsRow.frozenAt hown0 (i * 2)
      clear hown0
      obtain ⟨g', cap', A1', c1', hv1', hzi', -, -, d0', d1', -, -⟩ := hn1.at hmi1
      simp only at d1' hzi'
      rw [List.length_set, hlen] at hv1'
      injection hv1' with e1 e2' e3'
      clear e2' e3'
      injection e1 with e1
      injection e1 with e1
      subst e1
      rw [hzi1] at hzi'
      injection hzi' with hzi'
      injection hzi' with _ hzi'
      rw [← hzi'] at d1'
      have hon1 : Only lo hi wr (wr.setCell ⟨g, i * 2, none⟩ (.int .i64 (k + (N : Int)))) := (Only.refl lo hi wr).setCell (p := ⟨g, i * 2, none⟩) (.inl ⟨hgl0, hghi⟩) _
      have hsn1 : snds (ys.set i (k + (N : Int), Value.slice A1 x.2.length c1)) = snds zs := (snds_set hzi _).trans HSN.out
      have hsw := honly.size
      have hs1 : (wr.setCell ⟨g, i * 2, none⟩ (.int .i64 (k + (N : Int)))).heap.size = wr.heap.size := by simp [World.setCell]
      have HN1 := Lib.hid hn1
      have HZ1 := Lib.hid hzi1
      have HM1 := Lib.hid hmi1
      have HSN1 := Lib.hid hsn1
      have HS := Lib.hid hsum
      have HM := Lib.hid hmk
      have HT := Lib.hid htight
      have HOWN := Lib.hid hown
      have HON1 := Lib.hid (honly.trans hon1)
      have hrb : l < r → lo ≤ l ∧ r ≤ hi := fun h => ⟨(hlr h).1, by
        have := htight (r - 1) (by omega) (by omega)
        have := HLT.out (r - 1) (by rw [← hsn1]; exact mem_blks.2 ⟨i + 1, _, by simpa using snds_at.2 ⟨_, hzi1, rfl⟩, this⟩)
        omega⟩
      have HRB := Lib.hid hrb
      have l0 : g < wr.heap.size := hgl
      clear hxi hmi hri hsum hmk hz htight hlr hown e2 hrb hn1 hzi1 hmi1 hsn1 hon1 hN hlen hzi d0'
      go_wp2_with fail
      refine (markStepS_any l r _ _ x.2 (k + N + 1) _ HOWN.out (by omega) (by omega)).mono ?_
      rintro e w2 ⟨rfl, ho2, hon2⟩
      go_wp2_with fail
      go_roundw
      case rel =>
        refine ⟨i + 1, _, by omega, ?_, by go_num, HSN1.out, ?_, ?_⟩
        · rw [HS.out]; go_num
        · rw [← HM.out]
          refine HN1.out.turn HZ1.out HM1.out ?_ fun b hm hne => hon2.block b (HN1.out.lt b hm).2 ?_
          · refine ownsRow_base ?_ ho2.1
            intro g2 hg
            rcases Nat.lt_or_ge l r with h | h
            · have := HRB.out h
              have := ho2.lt g2 hg
              omega
            · have := ho2.lt g2 hg
              omega
          · rcases Nat.lt_or_ge b l with h | h
            · exact .inl h
            · rcases Nat.lt_or_ge b r with h2 | h2
              · exact absurd (HT.out b h h2) hne
              · exact .inr h2
        · rcases Nat.lt_or_ge l r with h | h
          · exact HON1.out.trans (hon2.mono (HRB.out h).1 (HRB.out h).2)
          · exact HON1.out.trans ⟨hon2.os, hon2.tape, hon2.output, hon2.size, fun n hn _ => hon2.block n hn (by omega)⟩
      case measure => simp [intOf]; omega
    · obtain rfl : i = ks.length := by omega
      rw [List.take_length, List.drop_length, List.append_nil] at HNS
      have HFIN := Lib.hid (show NWO lo hi wr (.slice A ks.length c) (mkW k ks) from ⟨ys, HNS.out, by rw [HSN.out]; exact HLT.out⟩)
      clear hz
      go_wp2_with fail
      go_ret
      exact ⟨ret_int (by simp), HFIN.out, honly⟩
end Go.Proofs.YtpbfdmfkmbdpkaaGreat

/- Plain: numbers in ascending order, each once. -/
namespace Go.Proofs.YtpbfdmfkmbdpkaaGreat
set_option linter.unusedVariables false
set_option linter.unusedSimpArgs false
open Go.Lib
def ascL (xs : List Int) : List Int := Lib.compact (xs.mergeSort fun x y => decide (x ≤ y))
theorem get_bang {zs : List Int} {j : Nat} (h : j < zs.length) : zs.toArray[j]! = zs[j] := by
  rw [getElem!_pos _ j (by simpa using h)]; simp
theorem asc_aux {zs : List Int} (hs : zs.Pairwise (· ≤ ·)) : ∀ m, m ≤ zs.length → (compactUpTo zs.toArray m).Pairwise (· < ·) ∧ ∀ x, x ∈ compactUpTo zs.toArray m ↔ ∃ j, ∃ h : j < zs.length, j < m ∧ zs[j] = x := by
  intro m
  induction m with
  | zero => intro _; simp [compactUpTo]
  | succ m ih =>
    intro hm
    obtain ⟨ih1, ih2⟩ := ih (by omega)
    have hml : m < zs.length := by omega
    rw [compactUpTo_succ]
    have hbd : ∀ x ∈ compactUpTo zs.toArray m, x ≤ zs[m] ∧ (0 < m → x ≤ zs[m - 1]) := fun x hx => by
      obtain ⟨j, hj, hjm, rfl⟩ := (ih2 x).1 hx
      refine ⟨List.pairwise_iff_getElem.1 hs j m hj hml hjm, fun h0 => ?_⟩
      rcases Nat.lt_or_ge j (m - 1) with h | h
      · exact List.pairwise_iff_getElem.1 hs j (m - 1) hj (by omega) h
      · have : j = m - 1 := by omega
        subst this
        exact Int.le_refl _
    by_cases hk : keeps zs.toArray m = true
    · rw [if_pos hk, get_bang hml]
      refine ⟨List.pairwise_append.2 ⟨ih1, by simp, fun x hx y hy => ?_⟩, fun x => ?_⟩
      · rw [List.mem_singleton] at hy
        subst hy
        rcases Nat.eq_zero_or_pos m with h0 | h0
        · subst h0
          simp [compactUpTo] at hx
        · have h1 := (hbd x hx).2 h0
          have h2 : zs[m - 1] ≤ zs[m] := List.pairwise_iff_getElem.1 hs (m - 1) m (by omega) hml (by omega)
          have h3 : zs[m] ≠ zs[m - 1] := by
            simp only [keeps, decide_eq_true_eq] at hk
            rcases hk with h | h
            · omega
            · rwa [get_bang hml, get_bang (show m - 1 < zs.length by omega)] at h
          have h4 : zs[m - 1] ≠ zs[m] := fun e => h3 e.symm
          omega
      · rw [List.mem_append, List.mem_singleton, ih2]
        constructor
        · rintro (⟨j, hj, hjm, rfl⟩ | rfl)
          · exact ⟨j, hj, by omega, rfl⟩
          · exact ⟨m, hml, by omega, rfl⟩
        · rintro ⟨j, hj, hjm, rfl⟩
          rcases Nat.lt_or_ge j m with h | h
          · exact .inl ⟨j, hj, h, rfl⟩
          · obtain rfl : j = m := by omega
            exact .inr rfl
    · rw [if_neg hk, List.append_nil]
      refine ⟨ih1, fun x => ?_⟩
      rw [ih2]
      have h0 : 0 < m ∧ zs[m] = zs[m - 1] := by
        simp only [keeps, decide_eq_true_eq, not_or] at hk
        refine ⟨by omega, ?_⟩
        have := hk.2
        rw [get_bang hml, get_bang (show m - 1 < zs.length by omega)] at this
        exact Classical.not_not.1 this
      constructor
      · rintro ⟨j, hj, hjm, rfl⟩
        exact ⟨j, hj, by omega, rfl⟩
      · rintro ⟨j, hj, hjm, rfl⟩
        rcases Nat.lt_or_ge j m with h | h
        · exact ⟨j, hj, h, rfl⟩
        · obtain rfl : j = m := by omega
          exact ⟨j - 1, by omega, by omega, h0.2.symm⟩
theorem ascL_spec (xs : List Int) : (ascL xs).Pairwise (· < ·) ∧ ∀ x, x ∈ ascL xs ↔ x ∈ xs := by
  have hs : (xs.mergeSort fun x y => decide (x ≤ y)).Pairwise (· ≤ ·) := by
    have h := List.pairwise_mergeSort (le := fun x y : Int => decide (x ≤ y)) (fun a b c h1 h2 => by simp only [decide_eq_true_eq] at *; omega) (fun a b => by simp only [Bool.or_eq_true, decide_eq_true_eq]; omega) xs
    exact h.imp (fun h => by simpa using h)
  obtain ⟨h1, h2⟩ := asc_aux hs _ (Nat.le_refl _)
  refine ⟨h1, fun x => ?_⟩
  have h3 := h2 x
  unfold ascL compact
  rw [h3, ← List.mem_mergeSort (le := fun x y : Int => decide (x ≤ y)), List.mem_iff_getElem]
  constructor
  · rintro ⟨j, hj, _, e⟩; exact ⟨j, hj, e⟩
  · rintro ⟨j, hj, e⟩; exact ⟨j, hj, hj, e⟩
theorem asc_uniq : ∀ {l r : List Int}, l.Pairwise (· < ·) → r.Pairwise (· < ·) → (∀ x, x ∈ l ↔ x ∈ r) → l = r
  | [], [], _, _, _ => rfl
  | [], y :: r, _, _, h => absurd ((h y).2 (by simp)) (by simp)
  | x :: l, [], _, _, h => absurd ((h x).1 (by simp)) (by simp)
  | x :: l, y :: r, h1, h2, h => by
    obtain ⟨a1, a2⟩ := List.pairwise_cons.1 h1
    obtain ⟨b1, b2⟩ := List.pairwise_cons.1 h2
    have hxy : x = y := by
      have e1 := (h x).1 (by simp)
      have e2 := (h y).2 (by simp)
      rcases List.mem_cons.1 e1 with e1 | e1
      · exact e1
      · rcases List.mem_cons.1 e2 with e2 | e2
        · exact e2.symm
        · have := b1 x e1
          have := a1 y e2
          omega
    subst hxy
    rw [asc_uniq a2 b2 fun z => ?_]
    have hz := h z
    simp only [List.mem_cons] at hz
    constructor
    · intro hm
      rcases hz.1 (.inr hm) with e | e
      · have := a1 z hm; omega
      · exact e
    · intro hm
      rcases hz.2 (.inr hm) with e | e
      · have := b1 z hm; omega
      · exact e
/-- the members of a set, as numbers -/
def memI (n m : Nat) : List Int := (mem n m).map fun (t : Nat) => (t : Int)
theorem memI_asc (n m : Nat) : (memI n m).Pairwise (· < ·) := by
  unfold memI mem
  rw [List.pairwise_map]
  refine (List.Pairwise.filter _ (List.pairwise_lt_range)).imp fun h => by omega
theorem mem_memI {n m : Nat} {x : Int} : x ∈ memI n m ↔ ∃ t : Nat, x = (t : Int) ∧ t < n ∧ m.testBit t = true := by
  unfold memI
  rw [List.mem_map]
  constructor
  · rintro ⟨t, ht, rfl⟩; exact ⟨t, rfl, mem_mem.1 ht⟩
  · rintro ⟨t, rfl, h⟩; exact ⟨t, mem_mem.2 h, rfl⟩
end Go.Proofs.YtpbfdmfkmbdpkaaGreat

/- Plain: breadth first search finds the least number of steps to a goal. -/
namespace Go.Proofs.YtpbfdmfkmbdpkaaGreat
set_option linter.unusedVariables false
set_option linter.unusedSimpArgs false

/-- a goal is n steps away from i -/
def toG (next : Nat → List Nat) (goal : Nat → Prop) : Nat → Nat → Prop
  | 0, i => goal i
  | n + 1, i => ∃ k ∈ next i, toG next goal n k
def IsDist (next : Nat → List Nat) (goal : Nat → Prop) (i : Nat) (d : Int) : Prop :=
  (d = -1 ∧ ∀ n, ¬ toG next goal n i) ∨ (0 ≤ d ∧ toG next goal d.toNat i ∧ ∀ m : Nat, m < d.toNat → ¬ toG next goal m i)
theorem IsDist.uniq {next : Nat → List Nat} {goal : Nat → Prop} {i : Nat} {d e : Int} (h : IsDist next goal i d) (k : IsDist next goal i e) : d = e := by
  rcases h with ⟨rfl, h⟩ | ⟨h0, h1, h2⟩
  · rcases k with ⟨rfl, _⟩ | ⟨_, k1, _⟩
    · rfl
    · exact absurd k1 (h _)
  · rcases k with ⟨rfl, k⟩ | ⟨k0, k1, k2⟩
    · exact absurd h1 (k _)
    · rcases Nat.lt_trichotomy d.toNat e.toNat with hlt | heq | hgt
      · exact absurd h1 (k2 _ hlt)
      · omega
      · exact absurd k1 (h2 _ hgt)

section
variable {prev next : Nat → List Nat} {goal : Nat → Prop} {N : Nat} {D : List Int} {q : List Nat}
structure BO (prev next : Nat → List Nat) (goal : Nat → Prop) (N : Nat) (D : List Int) (q : List Nat) : Prop where
  len : D.length = N
  sound : ∀ i, i < N → 0 ≤ D.getD i 0 → toG next goal (D.getD i 0).toNat i
  src : ∀ i, i < N → goal i → D.getD i 0 = 0
  done : ∀ k, k < N → 0 ≤ D.getD k 0 → k ∉ q → ∀ i ∈ prev k, 0 ≤ D.getD i 0 ∧ D.getD i 0 ≤ D.getD k 0 + 1
  top : ∀ h r, q = h :: r → ∀ i, i < N → D.getD i 0 ≤ D.getD h 0 + 1
  sorted : q.Pairwise (fun a b => D.getD a 0 ≤ D.getD b 0)
  qN : ∀ x ∈ q, x < N ∧ 0 ≤ D.getD x 0
  low : ∀ i, i < N → -1 ≤ D.getD i 0
structure BI (prev next : Nat → List Nat) (goal : Nat → Prop) (N : Nat) (D : List Int) (q : List Nat) (h : Nat) (l : List Nat) : Prop where
  len : D.length = N
  hN : h < N
  hD : 0 ≤ D.getD h 0
  sound : ∀ i, i < N → 0 ≤ D.getD i 0 → toG next goal (D.getD i 0).toNat i
  src : ∀ i, i < N → goal i → D.getD i 0 = 0
  done : ∀ k, k < N → 0 ≤ D.getD k 0 → k ∉ q → k ≠ h → ∀ i ∈ prev k, 0 ≤ D.getD i 0 ∧ D.getD i 0 ≤ D.getD k 0 + 1
  here : ∀ i ∈ prev h, i ∈ l ∨ (0 ≤ D.getD i 0 ∧ D.getD i 0 ≤ D.getD h 0 + 1)
  top : ∀ i, i < N → D.getD i 0 ≤ D.getD h 0 + 1
  qs : ∀ x ∈ q, D.getD h 0 ≤ D.getD x 0
  sorted : q.Pairwise (fun a b => D.getD a 0 ≤ D.getD b 0)
  qN : ∀ x ∈ q, x < N ∧ 0 ≤ D.getD x 0
  low : ∀ i, i < N → -1 ≤ D.getD i 0

theorem BO.enter {h : Nat} (b : BO prev next goal N D (h :: q)) : BI prev next goal N D q h (prev h) :=
  ⟨b.len, (b.qN h (by simp)).1, (b.qN h (by simp)).2, b.sound, b.src, fun k hk h0 hq hh => b.done k hk h0 (by simp [hq, hh]), fun i hi => .inl hi, b.top h q rfl,
    fun x hx => (List.pairwise_cons.1 b.sorted).1 x hx, (List.pairwise_cons.1 b.sorted).2, fun x hx => b.qN x (List.mem_cons_of_mem _ hx), b.low⟩
theorem BI.leave {h : Nat} (b : BI prev next goal N D q h []) : BO prev next goal N D q := by
  refine ⟨b.len, b.sound, b.src, fun k hk h0 hq => ?_, fun x r hx i hi => ?_, b.sorted, b.qN, b.low⟩
  · by_cases hkh : k = h
    · subst hkh
      intro i hi
      rcases b.here i hi with h | h
      · simp at h
      · exact h
    · exact b.done k hk h0 hq hkh
  · have h1 := b.top i hi
    have h2 := b.qs x (by rw [hx]; simp)
    omega
theorem BI.old {h k : Nat} {l : List Nat} (b : BI prev next goal N D q h (k :: l)) (hk : k < N) (h0 : ¬ D.getD k 0 < 0) : BI prev next goal N D q h l := by
  refine ⟨b.len, b.hN, b.hD, b.sound, b.src, b.done, fun i hi => ?_, b.top, b.qs, b.sorted, b.qN, b.low⟩
  rcases b.here i hi with h1 | h1
  · rcases List.mem_cons.1 h1 with rfl | h1
    · exact .inr ⟨by omega, b.top _ hk⟩
    · exact .inl h1
  · exact .inr h1
theorem BI.new {h k : Nat} {l : List Nat} (hpn : ∀ i k, i < N → k < N → i ∈ prev k → k ∈ next i) (hpN : ∀ i k, k < N → i ∈ prev k → i < N) (b : BI prev next goal N D q h (k :: l)) (hkp : k ∈ prev h) (h0 : D.getD k 0 < 0) :
    BI prev next goal N (D.set k (D.getD h 0 + 1)) (q ++ [k]) h l := by
  have hk : k < N := hpN k h b.hN hkp
  have hkl : k < D.length := by rw [b.len]; exact hk
  have hD := b.hD
  have hkh : k ≠ h := by intro e; subst e; omega
  have hh : (D.set k (D.getD h 0 + 1)).getD h 0 = D.getD h 0 := by rw [getD_set' hkl, if_neg (Ne.symm hkh)]
  have hset : ∀ x, x ≠ k → (D.set k (D.getD h 0 + 1)).getD x 0 = D.getD x 0 := fun x hx => by rw [getD_set' hkl, if_neg hx]
  have hsk : (D.set k (D.getD h 0 + 1)).getD k 0 = D.getD h 0 + 1 := by rw [getD_set' hkl, if_pos rfl]
  have hkq : ∀ x ∈ q, x ≠ k := fun x hx e => by subst e; have := (b.qN x hx).2; omega
  refine ⟨by rw [List.length_set]; exact b.len, b.hN, by rw [hh]; exact hD, fun i hi h1 => ?_, fun i hi hg => ?_, fun x hx h1 hxq hxh i hi => ?_, fun i hi => ?_, fun i hi => ?_, fun x hx => ?_, ?_, fun x hx => ?_, fun i hi => ?_⟩
  · by_cases e : i = k
    · subst e
      rw [hsk]
      have h2 := b.sound h b.hN hD
      rw [show (D.getD h 0 + 1).toNat = (D.getD h 0).toNat + 1 by omega]
      exact ⟨h, hpn i h hi b.hN hkp, h2⟩
    · rw [hset i e] at h1 ⊢
      exact b.sound i hi h1
  · have e : i ≠ k := by
      intro e; subst e
      have := b.src i hi hg
      omega
    rw [hset i e]
    exact b.src i hi hg
  · have e : x ≠ k := by intro e; subst e; simp at hxq
    rw [hset x e] at h1 ⊢
    have h2 := b.done x hx h1 (fun h => hxq (by simp [h])) hxh i hi
    have e2 : i ≠ k := by intro e2; subst e2; omega
    rw [hset i e2]
    exact h2
  · rw [hh]
    by_cases e : i = k
    · subst e
      refine .inr ?_
      rw [hsk]
      omega
    · rw [hset i e]
      rcases b.here i hi with h1 | h1
      · rcases List.mem_cons.1 h1 with h1 | h1
        · exact absurd h1 e
        · exact .inl h1
      · exact .inr h1
  · rw [hh]
    by_cases e : i = k
    · subst e; rw [hsk]; omega
    · rw [hset i e]; exact b.top i hi
  · rw [hh]
    rcases List.mem_append.1 hx with hx | hx
    · rw [hset x (hkq x hx)]; exact b.qs x hx
    · have : x = k := by simpa using hx
      subst this
      rw [hsk]; omega
  · rw [List.pairwise_append]
    refine ⟨?_, by simp, fun x hx y hy => ?_⟩
    · refine List.Pairwise.imp_of_mem (fun {x y} hx hy hxy => ?_) b.sorted
      rw [hset x (hkq x hx), hset y (hkq y hy)]
      exact hxy
    · have : y = k := by simpa using hy
      subst this
      rw [hset x (hkq x hx), hsk]
      exact b.top x (b.qN x hx).1
  · rcases List.mem_append.1 hx with hx | hx
    · rw [hset x (hkq x hx)]; exact b.qN x hx
    · have : x = k := by simpa using hx
      subst this
      rw [hsk]
      exact ⟨hk, by omega⟩
  · by_cases e : i = k
    · subst e; rw [hsk]; omega
    · rw [hset i e]; exact b.low i hi

theorem BI.all (hpn : ∀ i k, i < N → k < N → i ∈ prev k → k ∈ next i) (hpN : ∀ i k, k < N → i ∈ prev k → i < N) {h : Nat} : ∀ (l : List Nat) (D : List Int) (q : List Nat) (d : Int), d = D.getD h 0 + 1 → BI prev next goal N D q h l → (∀ k ∈ l, k ∈ prev h) →
    BO prev next goal N (relax d l D q).1 (relax d l D q).2 ∧ (relax d l D q).2.length + negs (relax d l D q).1 = q.length + negs D
  | [], _, _, _, _, b, _ => ⟨b.leave, rfl⟩
  | k :: l, D, q, d, hd, b, hl => by
    have hk : k < N := hpN k h b.hN (hl k (by simp))
    rw [relax]
    by_cases h0 : D.getD k 0 < 0
    · rw [if_pos h0]
      have hkl : k < D.length := by rw [b.len]; exact hk
      have hkh : k ≠ h := by intro e; subst e; have := b.hD; omega
      have h1 := BI.new hpn hpN b (hl k (by simp)) h0
      rw [← hd] at h1
      have := BI.all hpn hpN l (D.set k d) (q ++ [k]) d (by rw [getD_set' hkl, if_neg (Ne.symm hkh)]; exact hd) h1 (fun x hx => hl x (List.mem_cons_of_mem _ hx))
      refine ⟨this.1, this.2.trans ?_⟩
      have h3 := negs_set hkl h0 (d := d) (by have := b.hD; omega)
      rw [List.length_append, List.length_singleton]
      omega
    · rw [if_neg h0]
      exact BI.all hpn hpN l D q d hd (b.old hk h0) (fun x hx => hl x (List.mem_cons_of_mem _ hx))

theorem BO.fin (hnN : ∀ i k, i < N → k ∈ next i → k < N) (hnp : ∀ i k, i < N → k < N → k ∈ next i → i ∈ prev k) (b : BO prev next goal N D []) : ∀ i, i < N → IsDist next goal i (D.getD i 0) := by
  have hall : ∀ (n i : Nat), i < N → toG next goal n i → 0 ≤ D.getD i 0 ∧ D.getD i 0 ≤ n := by
    intro n
    induction n with
    | zero =>
      intro i hi h
      rw [b.src i hi h]
      omega
    | succ n ih =>
      rintro i hi ⟨k, hk, h⟩
      have hkN := hnN i k hi hk
      have h1 := ih k hkN h
      have h2 := b.done k hkN h1.1 (by simp) i (hnp i k hi hkN hk)
      omega
  intro i hi
  by_cases h0 : 0 ≤ D.getD i 0
  · exact .inr ⟨h0, b.sound i hi h0, fun m hm h => by have := hall m i hi h; omega⟩
  · refine .inl ⟨by have := b.low i hi; omega, fun n h => h0 (hall n i hi h).1⟩

theorem bfs_dist (hpn : ∀ i k, i < N → k < N → i ∈ prev k → k ∈ next i) (hpN : ∀ i k, k < N → i ∈ prev k → i < N) (hnN : ∀ i k, i < N → k ∈ next i → k < N) (hnp : ∀ i k, i < N → k < N → k ∈ next i → i ∈ prev k) :
    ∀ (f : Nat) (D : List Int) (q : List Nat), BO prev next goal N D q → q.length + negs D ≤ f → ∀ i, i < N → IsDist next goal i ((bfs prev f D q).getD i 0) := by
  intro f
  induction f with
  | zero =>
    intro D q b hf
    have : q = [] := List.eq_nil_of_length_eq_zero (by omega)
    subst this
    exact b.fin hnN hnp
  | succ f ih =>
    intro D q b hf
    cases q with
    | nil => exact b.fin hnN hnp
    | cons h q =>
      rw [bfs]
      have := BI.all hpn hpN (prev h) D q _ rfl b.enter (fun _ h => h)
      exact ih _ _ this.1 (by rw [this.2]; rw [List.length_cons] at hf; omega)

/-! ### The same by sweeps -/
/-- after the sweeps up to d: the distances up to d are known -/
def SwO (next : Nat → List Nat) (goal : Nat → Prop) (N : Nat) (D : List Int) (d : Nat) : Prop :=
  D.length = N ∧ ∀ i, i < N → (D.getD i 0 = -1 ∧ ∀ m, m ≤ d → ¬ toG next goal m i) ∨ (0 ≤ D.getD i 0 ∧ D.getD i 0 ≤ d ∧ IsDist next goal i (D.getD i 0))
/-- within the sweep for d + 1: the vertices below j are done -/
def SwI (next : Nat → List Nat) (goal : Nat → Prop) (N : Nat) (D : List Int) (d j : Nat) (ch : Bool) : Prop :=
  D.length = N ∧ (∀ i, i < N → (D.getD i 0 = -1 ∧ (∀ m, m ≤ d → ¬ toG next goal m i) ∧ (i < j → ¬ toG next goal (d + 1) i)) ∨ (0 ≤ D.getD i 0 ∧ D.getD i 0 ≤ (d : Int) + 1 ∧ IsDist next goal i (D.getD i 0))) ∧
    (ch = false → ∀ i, i < N → D.getD i 0 ≤ d)
theorem SwO.enter {d : Nat} (h : SwO next goal N D d) : SwI next goal N D d 0 false := by
  refine ⟨h.1, fun i hi => ?_, fun _ i hi => ?_⟩
  · rcases h.2 i hi with h1 | h1
    · exact .inl ⟨h1.1, h1.2, fun h => by omega⟩
    · exact .inr ⟨h1.1, by omega, h1.2.2⟩
  · rcases h.2 i hi with h1 | h1 <;> omega
theorem SwI.leave {d : Nat} {ch : Bool} (h : SwI next goal N D d N ch) : SwO next goal N D (d + 1) := by
  refine ⟨h.1, fun i hi => ?_⟩
  rcases h.2.1 i hi with h1 | h1
  · refine .inl ⟨h1.1, fun m hm => ?_⟩
    by_cases e : m = d + 1
    · subst e; exact h1.2.2 hi
    · exact h1.2.1 m (by omega)
  · exact .inr ⟨h1.1, by omega, h1.2.2⟩
theorem SwI.stop (hnN : ∀ i k, i < N → k ∈ next i → k < N) {d : Nat} (h : SwI next goal N D d N false) : ∀ i, i < N → IsDist next goal i (D.getD i 0) := by
  have hno : ∀ i, i < N → toG next goal (d + 1) i → ∃ m, m ≤ d ∧ toG next goal m i := by
    intro i hi ht
    rcases h.2.1 i hi with h1 | h1
    · exact absurd ht (h1.2.2 hi)
    · have h2 := h.2.2 rfl i hi
      rcases h1.2.2 with h3 | h3
      · omega
      · exact ⟨_, by omega, h3.2.1⟩
  have hall : ∀ (n i : Nat), i < N → toG next goal n i → ∃ m, m ≤ d ∧ toG next goal m i := by
    intro n
    induction n with
    | zero => intro i _ h; exact ⟨0, Nat.zero_le _, h⟩
    | succ n ih =>
      rintro i hi ⟨k, hk, ht⟩
      obtain ⟨m, hm, h2⟩ := ih k (hnN i k hi hk) ht
      by_cases e : m = d
      · subst e
        exact hno i hi ⟨k, hk, h2⟩
      · exact ⟨m + 1, by omega, k, hk, h2⟩
  intro i hi
  rcases h.2.1 i hi with h1 | h1
  · refine .inl ⟨h1.1, fun n hn => ?_⟩
    obtain ⟨m, hm, h2⟩ := hall n i hi hn
    exact h1.2.1 m hm h2
  · exact h1.2.2
/-- vertex j is known already, or none of its next ones is at distance d -/
theorem SwI.skip {d j : Nat} {ch : Bool} (h : SwI next goal N D d j ch) (hs : ¬ D.getD j 0 < 0 ∨ ∀ k ∈ next j, D.getD k 0 ≠ d) (hnN : ∀ i k, i < N → k ∈ next i → k < N) : SwI next goal N D d (j + 1) ch := by
  refine ⟨h.1, fun i hi => ?_, h.2.2⟩
  rcases h.2.1 i hi with h1 | h1
  · refine .inl ⟨h1.1, h1.2.1, fun hij => ?_⟩
    by_cases e : i = j
    · subst e
      rcases hs with hs | hs
      · omega
      · rintro ⟨k, hk, ht⟩
        have hkN := hnN i k hi hk
        rcases h.2.1 k hkN with h2 | h2
        · exact h2.2.1 d (Nat.le_refl _) ht
        · rcases h2.2.2 with h3 | h3
          · omega
          · have h4 : ¬ d < (D.getD k 0).toNat := fun hlt => h3.2.2 d hlt ht
            have h5 := hs k hk
            refine h1.2.1 ((D.getD k 0).toNat + 1) (by omega) ⟨k, hk, h3.2.1⟩
    · exact h1.2.2 (by omega)
  · exact .inr h1
theorem SwI.put {d j k : Nat} {ch : Bool} (h : SwI next goal N D d j ch) (hj : j < N) (h0 : D.getD j 0 < 0) (hk : k ∈ next j) (hkd : D.getD k 0 = d) (hnN : ∀ i k, i < N → k ∈ next i → k < N) : SwI next goal N (D.set j ((d : Int) + 1)) d (j + 1) true := by
  have hjl : j < D.length := by rw [h.1]; exact hj
  have hkN := hnN j k hj hk
  refine ⟨by rw [List.length_set]; exact h.1, fun i hi => ?_, fun h => by cases h⟩
  by_cases e : i = j
  · subst e
    rw [getD_set' hjl, if_pos rfl]
    rcases h.2.1 i hi with h1 | h1
    · refine .inr ⟨by omega, by omega, .inr ⟨by omega, ?_, fun m hm => h1.2.1 m (by omega)⟩⟩
      rcases h.2.1 k hkN with h2 | h2
      · omega
      · rcases h2.2.2 with h3 | h3
        · omega
        · have h4 := h3.2.1
          rw [hkd] at h4
          rw [show ((d : Int) + 1).toNat = d + 1 by omega]
          exact ⟨k, hk, by simpa using h4⟩
    · omega
  · rw [getD_set' hjl, if_neg e]
    rcases h.2.1 i hi with h1 | h1
    · exact .inl ⟨h1.1, h1.2.1, fun hij => h1.2.2 (by omega)⟩
    · exact .inr h1
end

/-- the lists turned round -/
def turnL (N : Nat) (next : Nat → List Nat) (k : Nat) : List Nat := (List.range N).flatMap fun i => (next i).filterMap fun x => if x = k then some i else none
theorem mem_turnL {N : Nat} {next : Nat → List Nat} {i k : Nat} : i ∈ turnL N next k ↔ i < N ∧ k ∈ next i := by
  unfold turnL
  simp only [List.mem_flatMap, List.mem_range, List.mem_filterMap]
  constructor
  · rintro ⟨j, hj, x, hx, he⟩
    by_cases h : x = k
    · rw [if_pos h] at he
      injection he with he
      subst h he
      exact ⟨hj, hx⟩
    · rw [if_neg h] at he; cases he
  · rintro ⟨hi, hk⟩
    exact ⟨i, hi, k, hk, by simp⟩
end Go.Proofs.YtpbfdmfkmbdpkaaGreat

/- Plain: breadth first search from some vertices. -/
namespace Go.Proofs.YtpbfdmfkmbdpkaaGreat
set_option linter.unusedVariables false
set_option linter.unusedSimpArgs false

def srcD (N : Nat) (fs : List Nat) : List Int := fs.foldl (fun D i => D.set i 0) (List.replicate N (-1))
theorem srcD_len (N : Nat) (fs : List Nat) : (srcD N fs).length = N := by
  have h : ∀ (fs : List Nat) (D : List Int), (fs.foldl (fun D i => D.set i 0) D).length = D.length := by
    intro fs
    induction fs with
    | nil => intro D; rfl
    | cons x fs ih => intro D; rw [List.foldl_cons, ih, List.length_set]
  rw [srcD, h, List.length_replicate]
theorem srcD_at {N : Nat} {fs : List Nat} {i : Nat} (hi : i < N) : (srcD N fs).getD i 0 = if i ∈ fs then 0 else -1 := by
  have h : ∀ (fs : List Nat) (D : List Int), i < D.length → (fs.foldl (fun D i => D.set i 0) D).getD i 0 = if i ∈ fs then 0 else D.getD i 0 := by
    intro fs
    induction fs with
    | nil => intro D _; simp
    | cons x fs ih =>
      intro D hD
      rw [List.foldl_cons, ih _ (by rw [List.length_set]; exact hD)]
      by_cases h1 : i ∈ fs
      · simp [h1]
      · rw [if_neg h1]
        by_cases h2 : i = x
        · subst h2
          rw [getD_set' hD, if_pos rfl]; simp
        · have hx : (D.set x 0).getD i 0 = D.getD i 0 := by
            simp only [List.getD, List.getElem?_set]
            rw [if_neg (fun e => h2 e.symm)]
          rw [hx, if_neg (by simp [h1, h2])]
  rw [srcD, h fs _ (by simpa using hi)]
  simp [List.getD, List.getElem?_replicate, hi]
theorem srcD_snoc (N : Nat) (fs : List Nat) (x : Nat) : srcD N (fs ++ [x]) = (srcD N fs).set x 0 := by simp [srcD, List.foldl_append]
theorem srcD_out {N : Nat} {fs : List Nat} {i : Nat} (hi : ¬ i < N) : (srcD N fs).getD i 0 = 0 := by
  simp only [List.getD]
  rw [List.getElem?_eq_none (by rw [srcD_len]; omega)]
  rfl
theorem negs_le (D : List Int) : negs D ≤ D.length := List.countP_le_length
theorem srcD_bfsI {N : Nat} {fs : List Nat} (hfs : ∀ i ∈ fs, i < N) : BfsI N (fs.length + N) (fs.length + N) (srcD N fs) fs := by
  have hv : ∀ i, (srcD N fs).getD i 0 = 0 ∨ (srcD N fs).getD i 0 = -1 := by
    intro i
    by_cases hi : i < N
    · rw [srcD_at hi]
      split
      · exact .inl rfl
      · exact .inr rfl
    · exact .inl (srcD_out hi)
  refine ⟨srcD_len N fs, fun h hh => ⟨hfs h hh, ?_⟩, ?_, fun h => ?_, fun h => ?_, Nat.le_refl _⟩
  · rw [srcD_at (hfs h hh), if_pos hh]; omega
  · have := negs_le (srcD N fs)
    rw [srcD_len] at this
    omega
  · rcases hv h with h1 | h1 <;> rw [h1] <;> omega
  · rcases hv h with h1 | h1 <;> rw [h1] <;> omega
def spreadR (N : Nat) (next : Nat → List Nat) (fs : List Nat) : List Int := bfs next (fs.length + N) (srcD N fs) fs
theorem spreadR_len (N : Nat) (next : Nat → List Nat) (fs : List Nat) : (spreadR N next fs).length = N := by rw [spreadR, bfs_len, srcD_len]

/-- from the goals, the rows turned round: the least number of steps to a goal -/
theorem spread_dist {N : Nat} {next : Nat → List Nat} {fs : List Nat} (hfs : ∀ i ∈ fs, i < N) (hn : ∀ i k, i < N → k ∈ next i → k < N) (i : Nat) (hi : i < N) :
    IsDist next (fun i => i ∈ fs) i ((spreadR N (turnL N next) fs).getD i 0) := by
  refine bfs_dist (prev := turnL N next) (fun i k _ _ h => (mem_turnL.1 h).2) (fun i k _ h => (mem_turnL.1 h).1) hn (fun i k hi _ h => mem_turnL.2 ⟨hi, h⟩) _ _ _ ?_ (srcD_bfsI hfs).fuel i hi
  refine ⟨srcD_len N fs, fun i hi h0 => ?_, fun i hi hg => ?_, fun k hk h0 hq => ?_, fun h r hq i hi => ?_, ?_, (srcD_bfsI hfs).queue, fun i hi => (srcD_bfsI hfs).low i⟩
  · rw [srcD_at hi] at h0 ⊢
    by_cases h : i ∈ fs
    · rw [if_pos h]; exact h
    · rw [if_neg h] at h0; omega
  · rw [srcD_at hi, if_pos hg]
  · rw [srcD_at hk, if_neg hq] at h0; omega
  · have hm : h ∈ fs := by rw [hq]; simp
    have e1 := srcD_at (fs := fs) (hfs h hm)
    rw [if_pos hm] at e1
    rw [srcD_at hi, e1]
    split <;> omega
  · have : ∀ l : List Nat, (∀ x ∈ l, x ∈ fs) → l.Pairwise (fun a b => (srcD N fs).getD a 0 ≤ (srcD N fs).getD b 0) := by
      intro l
      induction l with
      | nil => intro _; simp
      | cons x l ih =>
        intro hl
        refine List.pairwise_cons.2 ⟨fun y hy => ?_, ih fun z hz => hl z (List.mem_cons_of_mem _ hz)⟩
        have h1 := hl x (by simp)
        have h2 := hl y (List.mem_cons_of_mem _ hy)
        rw [srcD_at (hfs x h1), srcD_at (hfs y h2), if_pos h1, if_pos h2]
        omega
    exact this fs (fun _ h => h)
theorem relax_mid (d : Int) (k : Nat) (l : List Nat) (D : List Int) (q : List Nat) (h : D.getD k 0 < 0) : relax d (k :: l) D q = relax d l (D.set k d) (q ++ [k]) := by rw [relax, if_pos h]
theorem relax_old (d : Int) (k : Nat) (l : List Nat) (D : List Int) (q : List Nat) (h : ¬ D.getD k 0 < 0) : relax d (k :: l) D q = relax d l D q := by rw [relax, if_neg h]
end Go.Proofs.YtpbfdmfkmbdpkaaGreat

