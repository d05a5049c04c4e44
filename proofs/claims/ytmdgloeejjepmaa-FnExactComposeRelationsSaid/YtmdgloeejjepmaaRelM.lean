/- Plain: sets of pairs as lists in ascending order. -/
import Derived.Test.YtmdgloeejjepmaaBase
namespace Go.Proofs.Ytmdgloeejjepmaa
set_option linter.unusedVariables false
set_option linter.unusedSimpArgs false
def ltP (p q : Pr) : Bool := decide (p.1 < q.1) || (decide (p.1 = q.1) && decide (p.2 < q.2))
theorem ltP_iff {p q : Pr} : ltP p q = true ↔ p.1 < q.1 ∨ (p.1 = q.1 ∧ p.2 < q.2) := by simp [ltP]
theorem ltP_no {p q : Pr} : ltP p q = false ↔ ¬ (p.1 < q.1 ∨ (p.1 = q.1 ∧ p.2 < q.2)) := by
  rw [← ltP_iff]; simp
theorem pr_eq {p q : Pr} : p = q ↔ p.1 = q.1 ∧ p.2 = q.2 := by
  constructor
  · rintro rfl; exact ⟨rfl, rfl⟩
  · intro h; exact Prod.ext h.1 h.2
theorem ltP_trans {p q r : Pr} (h : ltP p q = true) (k : ltP q r = true) : ltP p r = true := by rw [ltP_iff] at *; omega
theorem ltP_irr {p : Pr} : ¬ ltP p p = true := by rw [ltP_iff]; omega
theorem ltP_tri (p q : Pr) : ltP p q = true ∨ p = q ∨ ltP q p = true := by rw [ltP_iff, ltP_iff, pr_eq]; omega
abbrev ascP (l : List Pr) : Prop := l.Pairwise fun p q => ltP p q = true
theorem uniqP : ∀ {l r : List Pr}, ascP l → ascP r → (∀ x, x ∈ l ↔ x ∈ r) → l = r
  | [], [], _, _, _ => rfl
  | [], y :: r, _, _, h => absurd ((h y).2 (by simp)) (by simp)
  | x :: l, [], _, _, h => absurd ((h x).1 (by simp)) (by simp)
  | x :: l, y :: r, h1, h2, h => by
    obtain ⟨a1, a2⟩ := List.pairwise_cons.1 h1
    obtain ⟨b1, b2⟩ := List.pairwise_cons.1 h2
    have hxy : x = y := by
      have e1 := (h x).1 (by simp)
      have e2 := (h y).2 (by simp)
      rcases List.mem_cons.1 e1 with e1 | e1
      · exact e1
      · rcases List.mem_cons.1 e2 with e2 | e2
        · exact e2.symm
        · exact absurd (ltP_trans (b1 x e1) (a1 y e2)) ltP_irr
    subst hxy
    rw [uniqP a2 b2 fun z => ?_]
    have hz := h z
    simp only [List.mem_cons] at hz
    constructor
    · intro hm
      rcases hz.1 (.inr hm) with e | e
      · subst e; exact absurd (a1 z hm) ltP_irr
      · exact e
    · intro hm
      rcases hz.2 (.inr hm) with e | e
      · subst e; exact absurd (b1 z hm) ltP_irr
      · exact e
theorem subP : ∀ {l r : List Pr}, ascP l → ascP r → (∀ x, x ∈ l → x ∈ r) → l.Sublist r
  | [], r, _, _, _ => List.nil_sublist r
  | x :: l, [], _, _, h => absurd (h x (by simp)) (by simp)
  | x :: l, y :: r, h1, h2, h => by
    obtain ⟨a1, a2⟩ := List.pairwise_cons.1 h1
    obtain ⟨b1, b2⟩ := List.pairwise_cons.1 h2
    rcases List.mem_cons.1 (h x (by simp)) with e | e
    · subst e
      refine List.Sublist.cons_cons _ (subP a2 b2 fun z hz => ?_)
      rcases List.mem_cons.1 (h z (List.mem_cons_of_mem _ hz)) with e | e
      · subst e; exact absurd (a1 z hz) ltP_irr
      · exact e
    · refine List.Sublist.cons _ (subP h1 b2 fun z hz => ?_)
      rcases List.mem_cons.1 (h z hz) with e2 | e2
      · subst e2
        rcases List.mem_cons.1 hz with e3 | e3
        · subst e3; exact absurd (b1 _ e) ltP_irr
        · exact absurd (ltP_trans (b1 x e) (a1 z e3)) ltP_irr
      · exact e2

/-! ### Laying one pair more into a set -/
def putP : List Pr → Pr → List Pr
  | [], p => [p]
  | x :: l, p => if ltP x p = true then x :: putP l p else if x = p then x :: l else p :: x :: l
theorem mem_putP {l : List Pr} {p x : Pr} : x ∈ putP l p ↔ x = p ∨ x ∈ l := by
  induction l with
  | nil => simp [putP]
  | cons y l ih =>
    rw [putP]
    split
    · simp only [List.mem_cons, ih]
      constructor
      · rintro (h | h | h) <;> simp [h]
      · rintro (h | h | h) <;> simp [h]
    · split
      · rename_i h
        subst h
        simp only [List.mem_cons]
        constructor
        · intro h; exact .inr h
        · rintro (h | h)
          · exact .inl h
          · exact h
      · simp [List.mem_cons]
theorem putP_asc {l : List Pr} {p : Pr} (h : ascP l) : ascP (putP l p) := by
  induction l with
  | nil => simp [putP, ascP]
  | cons y l ih =>
    obtain ⟨a1, a2⟩ := List.pairwise_cons.1 h
    rw [putP]
    split
    · rename_i hy
      refine List.pairwise_cons.2 ⟨fun z hz => ?_, ih a2⟩
      rcases mem_putP.1 hz with e | e
      · subst e; exact hy
      · exact a1 z e
    · split
      · exact h
      · rename_i h1 h2
        have hp : ltP p y = true := by
          rcases ltP_tri y p with e | e | e
          · exact absurd e h1
          · exact absurd e h2
          · exact e
        refine List.pairwise_cons.2 ⟨fun z hz => ?_, h⟩
        rcases List.mem_cons.1 hz with e | e
        · subst e; exact hp
        · exact ltP_trans hp (a1 z e)
/-- how the reference lays it: behind the k first ones, which are smaller -/
theorem putP_at : ∀ {l : List Pr} {p : Pr} {k : Nat}, k ≤ l.length → (∀ i x, i < k → l[i]? = some x → ltP x p = true) → (∀ x, l[k]? = some x → ltP x p = false) →
    putP l p = if l[k]? = some p then l else l.take k ++ [p] ++ l.drop k
  | [], p, k, hk, _, _ => by
    obtain rfl : k = 0 := by simpa using hk
    simp [putP]
  | y :: l, p, 0, _, _, h2 => by
    have hy := h2 y rfl
    rw [putP, if_neg (by simp [hy])]
    by_cases e : y = p
    · subst e; simp
    · rw [if_neg e]; simp [e]
  | y :: l, p, k + 1, hk, h1, h2 => by
    have hy := h1 0 y (by omega) rfl
    rw [putP, if_pos hy, putP_at (l := l) (k := k) (by simpa using hk) (fun i x hi hx => h1 (i + 1) x (by omega) (by simpa using hx)) (fun x hx => h2 x (by simpa using hx))]
    simp only [List.getElem?_cons_succ]
    split
    · rfl
    · simp

def psetL (xs : List Pr) : List Pr := xs.foldl putP []
theorem foldl_put (xs : List Pr) : ∀ (l : List Pr), ascP l → ascP (xs.foldl putP l) ∧ ∀ x, x ∈ xs.foldl putP l ↔ x ∈ l ∨ x ∈ xs := by
  induction xs with
  | nil => intro l h; exact ⟨h, by simp⟩
  | cons y xs ih =>
    intro l h
    obtain ⟨h1, h2⟩ := ih _ (putP_asc (p := y) h)
    refine ⟨h1, fun x => ?_⟩
    rw [List.foldl_cons, h2, mem_putP, List.mem_cons]
    constructor
    · rintro ((h | h) | h) <;> simp [h]
    · rintro (h | h | h) <;> simp [h]
theorem psetL_asc (xs : List Pr) : ascP (psetL xs) := (foldl_put xs [] List.Pairwise.nil).1
theorem mem_psetL {xs : List Pr} {x : Pr} : x ∈ psetL xs ↔ x ∈ xs := by rw [psetL, (foldl_put xs [] List.Pairwise.nil).2]; simp
theorem psetL_of {xs ys : List Pr} (h : ∀ x, x ∈ xs ↔ x ∈ ys) : psetL xs = psetL ys := uniqP (psetL_asc _) (psetL_asc _) fun x => by rw [mem_psetL, mem_psetL, h]
theorem psetL_self {xs : List Pr} (h : ascP xs) : psetL xs = xs := uniqP (psetL_asc _) h fun x => mem_psetL
theorem putP_len (l : List Pr) (p : Pr) : (putP l p).length ≤ l.length + 1 := by
  induction l with
  | nil => simp [putP]
  | cons y l ih => rw [putP]; split <;> (try split) <;> simp <;> omega
theorem foldl_put_len (xs l : List Pr) : (xs.foldl putP l).length ≤ l.length + xs.length := by
  induction xs generalizing l with
  | nil => simp
  | cons y xs ih => have := ih (putP l y); have := putP_len l y; simp only [List.foldl_cons, List.length_cons]; omega
theorem psetL_len (xs : List Pr) : (psetL xs).length ≤ xs.length := by have := foldl_put_len xs []; simpa [psetL] using this
theorem psetL_snoc (xs : List Pr) (p : Pr) : psetL (xs ++ [p]) = putP (psetL xs) p := by simp [psetL, List.foldl_append]
theorem psetL_app (xs ys : List Pr) : psetL (xs ++ ys) = ys.foldl putP (psetL xs) := by simp [psetL, List.foldl_append]

/-! ### Neighbours that are alike, struck out -/
def keepP (xs : List Pr) (i : Nat) : Bool := i == 0 || xs.getD i (0, 0) != xs.getD (i - 1) (0, 0)
def compTo (xs : List Pr) (k : Nat) : List Pr := ((List.range k).filter (keepP xs)).map fun i => xs.getD i (0, 0)
theorem compTo_yes {xs : List Pr} {k : Nat} (h : keepP xs k = true) : compTo xs (k + 1) = compTo xs k ++ [xs.getD k (0, 0)] := by simp [compTo, List.range_succ, List.filter_append, h]
theorem compTo_no {xs : List Pr} {k : Nat} (h : keepP xs k = false) : compTo xs (k + 1) = compTo xs k := by simp [compTo, List.range_succ, List.filter_append, h]
theorem compTo_len (xs : List Pr) (k : Nat) : (compTo xs k).length ≤ k := by
  unfold compTo
  rw [List.length_map]
  exact Nat.le_trans (List.length_filter_le _ _) (by simp)
theorem compTo_spec {xs : List Pr} (hs : ∀ i j, i < j → j < xs.length → ltP (xs.getD j (0, 0)) (xs.getD i (0, 0)) = false) : ∀ k, k ≤ xs.length → ascP (compTo xs k) ∧ (∀ x, x ∈ compTo xs k ↔ x ∈ xs.take k) ∧ (∀ x ∈ compTo xs k, 0 < k → ltP (xs.getD (k - 1) (0, 0)) x = false) := by
  intro k
  induction k with
  | zero => intro _; exact ⟨List.Pairwise.nil, by simp [compTo], by simp [compTo]⟩
  | succ k ih =>
    intro hk
    obtain ⟨h1, h2, h3⟩ := ih (by omega)
    have hxk : xs[k]? = some (xs.getD k (0, 0)) := by rw [List.getD_eq_getElem?_getD, List.getElem?_eq_getElem (by omega)]; rfl
    have htk : xs.take (k + 1) = xs.take k ++ [xs.getD k (0, 0)] := take_snoc hxk
    have hle : ∀ x ∈ compTo xs k, ltP (xs.getD k (0, 0)) x = false := fun x hx => by
      obtain ⟨j, hj⟩ := List.getElem?_of_mem ((h2 x).1 hx)
      have hjk : j < k := by have := (List.getElem?_eq_some_iff.1 hj).1; rw [List.length_take] at this; omega
      rw [List.getElem?_take_of_lt hjk] at hj
      have := hs j k hjk (by omega)
      rwa [List.getD_eq_getElem?_getD (l := xs) (i := j), hj] at this
    cases hkp : keepP xs k with
    | true =>
      rw [compTo_yes hkp]
      refine ⟨List.pairwise_append.2 ⟨h1, by simp, fun x hx y hy => ?_⟩, fun x => by rw [List.mem_append, h2, htk, List.mem_append], fun x hx _ => ?_⟩
      · rw [List.mem_singleton] at hy
        subst hy
        have hl := hle x hx
        rcases Nat.eq_zero_or_pos k with h0 | h0
        · subst h0; simp [compTo] at hx
        · have h4 := h3 x hx h0
          have h5 : xs.getD k (0, 0) ≠ xs.getD (k - 1) (0, 0) := by
            have h6 : (k == 0) = false := by simp; omega
            simpa [keepP, h6] using hkp
          have h6 := hs (k - 1) k (by omega) (by omega)
          rcases ltP_tri x (xs.getD k (0, 0)) with e | e | e
          · exact e
          · exfalso
            subst e
            rcases ltP_tri (xs.getD (k - 1) (0, 0)) (xs.getD k (0, 0)) with e | e | e
            · rw [h4] at e; cases e
            · exact h5 e.symm
            · rw [h6] at e; cases e
          · rw [hl] at e; cases e
      · simp only [Nat.add_sub_cancel]
        rcases List.mem_append.1 hx with hx | hx
        · exact hle x hx
        · rw [List.mem_singleton] at hx
          subst hx
          rw [ltP_no]; omega
    | false =>
      rw [compTo_no hkp]
      have h0 : 0 < k := by
        rcases Nat.eq_zero_or_pos k with h0 | h0
        · subst h0; simp [keepP] at hkp
        · exact h0
      have he : xs.getD k (0, 0) = xs.getD (k - 1) (0, 0) := by
        have h6 : (k == 0) = false := by simp; omega
        simpa [keepP, h6] using hkp
      refine ⟨h1, fun x => ?_, fun x hx _ => ?_⟩
      · rw [h2, htk, List.mem_append, List.mem_singleton]
        constructor
        · intro h; exact .inl h
        · rintro (h | h)
          · exact h
          · subst h
            rw [he]
            refine List.mem_of_getElem? (i := k - 1) ?_
            rw [List.getElem?_take_of_lt (by omega), List.getD_eq_getElem?_getD, List.getElem?_eq_getElem (by omega)]; rfl
      · simp only [Nat.add_sub_cancel]
        exact hle x hx
/-- a sorted rearrangement, its like neighbours struck out, is the set -/
theorem compTo_set {xs ys : List Pr} (hs : ∀ i j, i < j → j < xs.length → ltP (xs.getD j (0, 0)) (xs.getD i (0, 0)) = false) (hp : ∀ x, x ∈ xs ↔ x ∈ ys) : compTo xs xs.length = psetL ys := by
  obtain ⟨h1, h2, _⟩ := compTo_spec hs xs.length (Nat.le_refl _)
  exact uniqP h1 (psetL_asc _) fun x => by rw [h2, List.take_length, mem_psetL, hp]

/-! ### Composition, powers, closure -/
def compRow (p : Pr) (b : List Pr) : List Pr := (b.filter fun q => p.2 == q.1).map fun q => (p.1, q.2)
def compL (a b : List Pr) : List Pr := a.flatMap fun p => compRow p b
theorem mem_compL {a b : List Pr} {x : Pr} : x ∈ compL a b ↔ ∃ p ∈ a, ∃ q ∈ b, p.2 = q.1 ∧ x = (p.1, q.2) := by
  simp only [compL, compRow, List.mem_flatMap, List.mem_map, List.mem_filter, beq_iff_eq]
  constructor
  · rintro ⟨p, hp, q, ⟨hq, he⟩, rfl⟩; exact ⟨p, hp, q, hq, he, rfl⟩
  · rintro ⟨p, hp, q, hq, he, rfl⟩; exact ⟨p, hp, q, ⟨hq, he⟩, rfl⟩
def composeL (a b : List Pr) : List Pr := psetL (compL a b)
theorem composeL_pset (a b : List Pr) : psetL (compL (psetL a) b) = composeL a b := psetL_of fun x => by simp only [mem_compL, mem_psetL]
def invertL (l : List Pr) : List Pr := psetL (l.map fun p => (p.2, p.1))
def mergeL (a b : List Pr) : List Pr := psetL (a ++ b)
def closStep (l out : List Pr) : List Pr := mergeL out (composeL out l)
def closK (l o : List Pr) : Nat → List Pr
  | 0 => o
  | k + 1 => closStep l (closK l o k)
theorem closK_asc {l o : List Pr} (h : ascP o) : ∀ k, ascP (closK l o k)
  | 0 => h
  | _ + 1 => psetL_asc _
theorem mem_closStep {l out : List Pr} {x : Pr} : x ∈ closStep l out ↔ x ∈ out ∨ ∃ p ∈ out, ∃ q ∈ l, p.2 = q.1 ∧ x = (p.1, q.2) := by
  rw [closStep, mergeL, mem_psetL, List.mem_append, composeL, mem_psetL, mem_compL]
theorem closK_mono {l o : List Pr} {x : Pr} {k : Nat} (h : x ∈ closK l o k) : x ∈ closK l o (k + 1) := mem_closStep.2 (.inl h)
theorem filter_len_le {α : Type} {p q : α → Bool} : ∀ {l : List α}, (∀ x ∈ l, p x = true → q x = true) → (l.filter p).length ≤ (l.filter q).length
  | [], _ => Nat.le_refl _
  | x :: l, h => by
    have ih := filter_len_le (l := l) fun y hy => h y (List.mem_cons_of_mem _ hy)
    have hx := h x (List.mem_cons_self ..)
    rw [List.filter_cons, List.filter_cons]
    cases hp : p x with
    | true => rw [hx hp]; simpa using ih
    | false => cases q x <;> simp <;> omega
theorem filter_len_lt {α : Type} {p q : α → Bool} : ∀ {l : List α}, (∀ x ∈ l, p x = true → q x = true) → (∃ x ∈ l, q x = true ∧ p x = false) → (l.filter p).length < (l.filter q).length
  | [], _, h => by obtain ⟨x, hx, _⟩ := h; cases hx
  | x :: l, h, h2 => by
    have hx := h x (List.mem_cons_self ..)
    have h' : ∀ y ∈ l, p y = true → q y = true := fun y hy => h y (List.mem_cons_of_mem _ hy)
    rw [List.filter_cons, List.filter_cons]
    cases hp : p x with
    | true =>
      have ih := filter_len_lt h' (by
        obtain ⟨y, hy, hq, hpy⟩ := h2
        rcases List.mem_cons.1 hy with e | e
        · subst e; rw [hp] at hpy; cases hpy
        · exact ⟨y, e, hq, hpy⟩)
      rw [hx hp]
      simpa using ih
    | false =>
      cases hq : q x with
      | true => have := filter_len_le h'; simp; omega
      | false =>
        have ih := filter_len_lt h' (by
          obtain ⟨y, hy, hqy, hpy⟩ := h2
          rcases List.mem_cons.1 hy with e | e
          · subst e; rw [hq] at hqy; cases hqy
          · exact ⟨y, e, hqy, hpy⟩)
        simpa using ih
abbrev inB (x : Int) : Prop := 0 ≤ x ∧ x ≤ 4
theorem closK_in {l o : List Pr} (hl : ∀ p ∈ l, inB p.2) (ho : ∀ p ∈ o, inB p.2) : ∀ k, ∀ p ∈ closK l o k, inB p.2
  | 0 => ho
  | k + 1 => fun p hp => by
    rcases mem_closStep.1 hp with h | ⟨q, _, r, hr, _, rfl⟩
    · exact closK_in hl ho k p h
    · exact hl r hr
/-- which ends a node has, out of the five -/
def rowOf (l o : List Pr) (x : Int) (k : Nat) (y : Nat) : Bool := (closK l o k).contains (x, (y : Int))
theorem clos_fix {l o : List Pr} (hl : ∀ p ∈ l, inB p.2) (ho : ∀ p ∈ o, inB p.2) (has : ascP o) : closStep l (closK l o 5) = closK l o 5 := by
  refine uniqP (psetL_asc _) (closK_asc has 5) fun x => ⟨fun hx => ?_, closK_mono⟩
  obtain ⟨x1, y1⟩ := x
  have hstep : ∀ k y, rowOf l o x1 (k + 1) y = true ↔ rowOf l o x1 k y = true ∨ ∃ z, (x1, z) ∈ closK l o k ∧ (z, (y : Int)) ∈ l := fun k y => by
    simp only [rowOf, List.contains_iff_mem]
    rw [closK, mem_closStep]
    constructor
    · rintro (h | ⟨p, hp, q, hq, e1, e2⟩)
      · exact .inl h
      · obtain ⟨e2, e3⟩ := Prod.mk.inj e2
        refine .inr ⟨p.2, ?_, ?_⟩
        · rw [e2]; exact hp
        · rw [e3, e1]; exact hq
    · rintro (h | ⟨z, h1, h2⟩)
      · exact .inl h
      · exact .inr ⟨_, h1, _, h2, rfl, rfl⟩
  -- a row that no longer grows stands still
  have hstill : ∀ k, (∀ y, y < 5 → rowOf l o x1 (k + 1) y = true → rowOf l o x1 k y = true) → ∀ y, y < 5 → rowOf l o x1 (k + 1 + 1) y = true → rowOf l o x1 (k + 1) y = true := fun k h y hy hr => by
    rcases (hstep (k + 1) y).1 hr with h1 | ⟨z, h1, h2⟩
    · exact h1
    · obtain ⟨hz0, hz4⟩ := closK_in hl ho (k + 1) _ h1
      obtain ⟨z, rfl⟩ := Int.eq_ofNat_of_zero_le hz0
      have h3 := h z (by simp only at hz4; omega) (by rw [rowOf, List.contains_iff_mem]; exact h1)
      exact (hstep k y).2 (.inr ⟨_, by rw [rowOf, List.contains_iff_mem] at h3; exact h3, h2⟩)
  have hgrow : ∀ k, (∀ y, y < 5 → rowOf l o x1 (k + 1) y = true → rowOf l o x1 k y = true) ∨ k + 1 ≤ ((List.range 5).filter (rowOf l o x1 (k + 1))).length := fun k => by
    have hcase : ∀ k, (∀ y, y < 5 → rowOf l o x1 (k + 1) y = true → rowOf l o x1 k y = true) ∨ ((List.range 5).filter (rowOf l o x1 k)).length < ((List.range 5).filter (rowOf l o x1 (k + 1))).length := fun k => by
      by_cases h : ∀ y, y < 5 → rowOf l o x1 (k + 1) y = true → rowOf l o x1 k y = true
      · exact .inl h
      · refine .inr (filter_len_lt (fun y _ hy => (hstep k y).2 (.inl hy)) ?_)
        simp only [Classical.not_forall] at h
        obtain ⟨y, hy, h1, h2⟩ := h
        exact ⟨y, List.mem_range.2 hy, h1, by simpa using h2⟩
    induction k with
    | zero =>
      rcases hcase 0 with h | h
      · exact .inl h
      · exact .inr (by omega)
    | succ k ih =>
      rcases ih with h | h
      · exact .inl (hstill k h)
      · rcases hcase (k + 1) with h1 | h1
        · exact .inl h1
        · exact .inr (by omega)
  obtain ⟨hy0, hy4⟩ := closK_in hl ho 6 _ hx
  simp only at hy0 hy4
  obtain ⟨y, rfl⟩ := Int.eq_ofNat_of_zero_le hy0
  rcases hgrow 5 with h | h
  · have := h y (by omega) (by rw [rowOf, List.contains_iff_mem]; exact hx)
    rwa [rowOf, List.contains_iff_mem] at this
  · have := List.length_filter_le (rowOf l o x1 (5 + 1)) (List.range 5)
    rw [List.length_range] at this
    omega
theorem clos_stay {l o : List Pr} {k : Nat} (h : closStep l (closK l o k) = closK l o k) : ∀ j, closK l o (k + j) = closK l o k
  | 0 => rfl
  | j + 1 => by rw [← Nat.add_assoc, closK, clos_stay h j, h]
theorem clos_len {l o : List Pr} (has : ascP o) {k : Nat} (h : (closStep l (closK l o k)).length = (closK l o k).length) : closStep l (closK l o k) = closK l o k :=
  ((subP (closK_asc has k) (psetL_asc _) fun x hx => closK_mono hx).eq_of_length h.symm).symm
end Go.Proofs.Ytmdgloeejjepmaa
