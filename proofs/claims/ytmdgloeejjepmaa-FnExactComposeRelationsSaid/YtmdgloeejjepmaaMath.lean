/- Plain functions on plain data: nothing of the program. -/
import Derived.Test.YtmdgloeejjepmaaBase
namespace Go.Proofs.Ytmdgloeejjepmaa
set_option linter.unusedVariables false
set_option linter.unusedSimpArgs false

theorem exists_least_nat {p : Nat → Prop} (h : ∃ n, p n) : ∃ n, p n ∧ ∀ m, p m → n ≤ m := by
  obtain ⟨n, hn⟩ := h
  induction n using Nat.strongRecOn with
  | _ n ih =>
    by_cases hm : ∃ m, m < n ∧ p m
    · obtain ⟨m, hlt, hp⟩ := hm
      exact ih m hlt hp
    · exact ⟨n, hn, fun m hp => Nat.le_of_not_lt fun hlt => hm ⟨m, hlt, hp⟩⟩

/-- n is in the range a to b -/
def wi (n a b : Int) : Bool := decide (a ≤ n) && decide (n ≤ b)
theorem wi_iff {n a b : Int} : wi n a b = true ↔ a ≤ n ∧ n ≤ b := by simp [wi]
theorem wi_false {n a b : Int} : wi n a b = false ↔ ¬ (a ≤ n ∧ n ≤ b) := by rw [← wi_iff]; simp

/-! ### Automata -/
def rowOk (n : Int) (row : List Int) : Bool := row.all (fun t => wi t (-1) (n - 1)) && (row.length == 9)
def auOk (a : Au) : Bool := wi a.accept.length 1 12 && wi a.start 0 ((a.accept.length : Int) - 1) && (a.next.length == a.accept.length) && a.next.all (rowOk a.accept.length)
theorem auOk_iff {a : Au} : auOk a = true ↔ (1 ≤ a.accept.length ∧ a.accept.length ≤ 12) ∧ (0 ≤ a.start ∧ a.start ≤ (a.accept.length : Int) - 1) ∧ a.next.length = a.accept.length ∧ ∀ row ∈ a.next, rowOk a.accept.length row = true := by
  simp only [auOk, Bool.and_eq_true, wi_iff, beq_iff_eq, List.all_eq_true]
  constructor
  · rintro ⟨⟨⟨h1, h2⟩, h3⟩, h4⟩
    exact ⟨by omega, h2, h3, h4⟩
  · rintro ⟨h1, h2, h3, h4⟩
    exact ⟨⟨⟨by omega, h2⟩, h3⟩, h4⟩
theorem rowOk_iff {n : Int} {row : List Int} : rowOk n row = true ↔ (∀ t ∈ row, -1 ≤ t ∧ t ≤ n - 1) ∧ row.length = 9 := by
  simp only [rowOk, Bool.and_eq_true, List.all_eq_true, wi_iff, beq_iff_eq]

/-! ### Graphs -/
def edOk (n : Int) (e : Ed) : Bool := wi e.1 1 99 && wi e.2.1 0 (n - 1) && wi e.2.2.1 0 (n - 1) && wi e.2.2.2 0 2
/-- edge number i is fine, and its id is above the one before it -/
def edAt (n : Int) (es : List Ed) (i : Nat) : Bool :=
  match es[i]? with
  | none => true
  | some e => edOk n e && (decide (i = 0) || match es[i - 1]? with
    | some p => decide (p.1 < e.1)
    | none => true)
def grOk (g : Gr) : Bool := g.vals.all (fun v => wi v 0 2) && (List.range g.edges.length).all (edAt g.vals.length g.edges) && wi g.vals.length 1 5 && decide (g.edges.length ≤ 12)
theorem edOk_iff {n : Int} {e : Ed} : edOk n e = true ↔ (1 ≤ e.1 ∧ e.1 ≤ 99) ∧ (0 ≤ e.2.1 ∧ e.2.1 ≤ n - 1) ∧ (0 ≤ e.2.2.1 ∧ e.2.2.1 ≤ n - 1) ∧ (0 ≤ e.2.2.2 ∧ e.2.2.2 ≤ 2) := by
  simp only [edOk, Bool.and_eq_true, wi_iff, and_assoc]
structure GrOk (g : Gr) : Prop where
  n1 : 1 ≤ g.vals.length
  n5 : g.vals.length ≤ 5
  e12 : g.edges.length ≤ 12
  vals : ∀ v ∈ g.vals, 0 ≤ v ∧ v ≤ 2
  edges : ∀ e ∈ g.edges, (1 ≤ e.1 ∧ e.1 ≤ 99) ∧ (0 ≤ e.2.1 ∧ e.2.1 ≤ (g.vals.length : Int) - 1) ∧ (0 ≤ e.2.2.1 ∧ e.2.2.1 ≤ (g.vals.length : Int) - 1) ∧ (0 ≤ e.2.2.2 ∧ e.2.2.2 ≤ 2)
  asc : ∀ (i : Nat) (p e : Ed), g.edges[i]? = some p → g.edges[i + 1]? = some e → p.1 < e.1
theorem grOk_iff {g : Gr} : grOk g = true ↔ GrOk g := by
  simp only [grOk, Bool.and_eq_true, decide_eq_true_eq, List.all_eq_true, wi_iff, List.mem_range]
  constructor
  · rintro ⟨⟨⟨h1, h2⟩, h3⟩, h4⟩
    refine ⟨by omega, by omega, h4, h1, fun e he => ?_, fun i p e hp he => ?_⟩
    · obtain ⟨i, hi, hie⟩ := List.getElem_of_mem he
      have := h2 i hi
      rw [edAt, List.getElem?_eq_getElem hi, hie] at this
      simp only [Bool.and_eq_true] at this
      exact edOk_iff.1 this.1
    · have hi := (List.getElem?_eq_some_iff.1 he).1
      have := h2 (i + 1) hi
      rw [edAt, he] at this
      simp only [Bool.and_eq_true, Nat.add_sub_cancel, hp, Bool.or_eq_true, decide_eq_true_eq] at this
      rcases this.2 with h | h
      · omega
      · exact h
  · rintro ⟨h1, h2, h3, h4, h5, h6⟩
    refine ⟨⟨⟨h4, fun i hi => ?_⟩, by omega⟩, h3⟩
    rw [edAt, List.getElem?_eq_getElem hi]
    simp only [Bool.and_eq_true, Bool.or_eq_true, decide_eq_true_eq]
    refine ⟨edOk_iff.2 (h5 _ (List.getElem_mem hi)), ?_⟩
    by_cases h0 : i = 0
    · exact .inl h0
    · refine .inr ?_
      have hp : g.edges[i - 1]? = some g.edges[i - 1] := List.getElem?_eq_getElem (by omega)
      rw [hp]
      simp only [decide_eq_true_eq]
      exact h6 (i - 1) _ _ hp (by rw [show i - 1 + 1 = i by omega, List.getElem?_eq_getElem hi])
theorem range_all_succ {p : Nat → Bool} {i : Nat} (h : (List.range i).all p = true) (hp : p i = true) : (List.range (i + 1)).all p = true := by
  rw [List.range_succ, List.all_append, h]
  simp [hp]
theorem range_all_false {p : Nat → Bool} {n i : Nat} (hi : i < n) (hp : p i = false) : (List.range n).all p = false := by
  rw [List.all_eq_false]
  exact ⟨i, List.mem_range.2 hi, by simp [hp]⟩
/-- the place of the first edge with an id, -1 if there is none -/
def edgeIdx (g : Gr) (id : Int) : Int := match g.edges.findIdx? (fun e => e.1 == id) with
  | some i => i
  | none => -1

theorem edgeIdx_none {g : Gr} {id : Int} (h : ∀ e : Ed, e ∈ g.edges → ¬ e.1 = id) : edgeIdx g id = -1 := by
  have : g.edges.findIdx? (fun e => e.1 == id) = none := by
    rw [List.findIdx?_eq_none_iff]
    intro e he
    simpa using h e he
  rw [edgeIdx, this]
theorem edgeIdx_some {g : Gr} {id : Int} {i : Nat} {e : Ed} (hi : g.edges[i]? = some e) (he : e.1 = id) (h : ∀ y : Ed, y ∈ g.edges.take i → ¬ y.1 = id) : edgeIdx g id = i := by
  have : g.edges.findIdx? (fun e => e.1 == id) = some i := by
    rw [List.findIdx?_eq_some_iff_getElem]
    obtain ⟨hlt, hx⟩ := List.getElem?_eq_some_iff.1 hi
    refine ⟨hlt, by rw [hx]; simpa using he, fun j hj => ?_⟩
    have hm : g.edges[j] ∈ g.edges.take i := by
      rw [List.mem_take_iff_getElem]
      exact ⟨j, by omega, rfl⟩
    simpa using h _ hm
  rw [edgeIdx, this]
theorem edgeIdx_spec (g : Gr) (id : Int) : (edgeIdx g id = -1 ∧ ∀ e ∈ g.edges, ¬ e.1 = id) ∨ ∃ (i : Nat) (e : Ed), edgeIdx g id = i ∧ g.edges[i]? = some e ∧ e.1 = id ∧ ∀ y : Ed, y ∈ g.edges.take i → ¬ y.1 = id := by
  by_cases h : ∃ e ∈ g.edges, e.1 = id
  · right
    have hex : ∃ i : Nat, ∃ e : Ed, g.edges[i]? = some e ∧ e.1 = id := by
      obtain ⟨e, he, hid⟩ := h
      obtain ⟨i, hi, hie⟩ := List.getElem_of_mem he
      exact ⟨i, e, by rw [List.getElem?_eq_getElem hi, hie], hid⟩
    obtain ⟨i, ⟨e, he, hid⟩, hmin⟩ := exists_least_nat hex
    have hno : ∀ y : Ed, y ∈ g.edges.take i → ¬ y.1 = id := by
      intro y hy hyid
      rw [List.mem_take_iff_getElem] at hy
      obtain ⟨j, hj, hje⟩ := hy
      have := hmin j ⟨y, by rw [List.getElem?_eq_getElem (by omega), hje], hyid⟩
      omega
    exact ⟨i, e, edgeIdx_some he hid hno, he, hid, hno⟩
  · left
    have h2 : ∀ e ∈ g.edges, ¬ e.1 = id := fun e he hid => h ⟨e, he, hid⟩
    exact ⟨edgeIdx_none h2, h2⟩

/-- the edge with an id, of a valid graph -/
def stepEd (g : Gr) (id : Int) : Option Ed := if grOk g then g.edges.find? (fun e => e.1 == id) else none
theorem stepEd_bad {g : Gr} (id : Int) (h : grOk g = false) : stepEd g id = none := by simp [stepEd, h]
theorem stepEd_none {g : Gr} {id : Int} (h : ∀ e : Ed, e ∈ g.edges → ¬ e.1 = id) : stepEd g id = none := by
  unfold stepEd
  split
  · rw [List.find?_eq_none]
    intro e he
    simpa using h e he
  · rfl
theorem stepEd_some {g : Gr} {id : Int} {i : Nat} {e : Ed} (hg : grOk g = true) (hi : g.edges[i]? = some e) (he : e.1 = id) (h : ∀ y : Ed, y ∈ g.edges.take i → ¬ y.1 = id) : stepEd g id = some e := by
  rw [stepEd, if_pos hg, List.find?_eq_some_iff_getElem]
  obtain ⟨hlt, hx⟩ := List.getElem?_eq_some_iff.1 hi
  refine ⟨by simpa using he, i, hlt, hx, fun j hj => ?_⟩
  have hm : g.edges[j] ∈ g.edges.take i := by
    rw [List.mem_take_iff_getElem]
    exact ⟨j, by omega, rfl⟩
  simpa using h _ hm
theorem stepEd_ok {g : Gr} {id : Int} {e : Ed} (h : stepEd g id = some e) : GrOk g ∧ e ∈ g.edges ∧ e.1 = id := by
  unfold stepEd at h
  split at h
  · rename_i hg
    exact ⟨grOk_iff.1 hg, List.mem_of_find?_eq_some h, by simpa using List.find?_some h⟩
  · cases h
def stepFrom (g : Gr) (s : St) : Int := match stepEd g s.1 with
  | none => -1
  | some e => if s.2 then e.2.2.1 else e.2.1
def stepTo (g : Gr) (s : St) : Int := stepFrom g (s.1, !s.2)
def stepLetter (g : Gr) (s : St) : Int := match stepEd g s.1 with
  | none => -1
  | some e => if s.2 then 2 * e.2.2.2 + 1 else 2 * e.2.2.2
theorem stepFrom_range (g : Gr) (s : St) : stepFrom g s = -1 ∨ (0 ≤ stepFrom g s ∧ stepFrom g s ≤ (g.vals.length : Int) - 1 ∧ GrOk g) := by
  unfold stepFrom
  cases h : stepEd g s.1 with
  | none => exact .inl rfl
  | some e =>
    obtain ⟨hg, he, _⟩ := stepEd_ok h
    have := hg.edges e he
    refine .inr ?_
    simp only
    split
    · exact ⟨this.2.2.1.1, this.2.2.1.2, hg⟩
    · exact ⟨this.2.1.1, this.2.1.2, hg⟩
theorem stepFrom_neg {g : Gr} {s : St} : stepFrom g s < 0 ↔ stepEd g s.1 = none := by
  constructor
  · intro h
    cases he : stepEd g s.1 with
    | none => rfl
    | some e =>
      exfalso
      rcases stepFrom_range g s with h1 | h1
      · obtain ⟨hg, hm, _⟩ := stepEd_ok he
        have := hg.edges e hm
        rw [stepFrom, he] at h1
        simp only at h1
        split at h1 <;> omega
      · omega
  · intro h
    rw [stepFrom, h]
    simp
/-- whether a condition holds of two values -/
def condOk (c v w : Int) : Bool := if c = 0 then true else if c = 1 then v == w else if c = 2 then decide (v ≤ w) else if c = 3 then decide (v < w) else if c = 4 then v != w else false
def stepAllowed (g : Gr) (c : Int) (s : St) : Bool :=
  decide (0 ≤ stepFrom g s) && condOk c (g.vals.getD (stepFrom g s).toNat 0) (g.vals.getD (stepTo g s).toNat 0)

theorem all_take_succ {α : Type} {p : α → Bool} {xs : List α} {i : Nat} {x : α} (hx : xs[i]? = some x) (h : (xs.take i).all p = true) (hp : p x = true) : (xs.take (i + 1)).all p = true := by
  rw [take_snoc hx, List.all_append, h]
  simp [hp]
theorem all_false_of {α : Type} {p : α → Bool} {xs : List α} {i : Nat} {x : α} (hx : xs[i]? = some x) (hp : p x = false) : xs.all p = false := by
  rw [List.all_eq_false]
  exact ⟨x, List.mem_of_getElem? hx, by simp [hp]⟩
end Go.Proofs.Ytmdgloeejjepmaa
