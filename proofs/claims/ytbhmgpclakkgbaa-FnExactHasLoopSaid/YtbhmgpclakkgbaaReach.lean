/- Which states are reached: the search with a queue, and the rounds until nothing more comes. Plain lists. -/
import Derived.Test.YtbhmgpclakkgbaaMath
namespace Go.Proofs.Ytbhmgpclakkgbaa
set_option linter.unusedVariables false
set_option linter.unusedSimpArgs false

def stepT (nx : List (List Int)) (s t : Nat) : Prop := ∃ row, nx[s]? = some row ∧ (t : Int) ∈ row
def Reach (nx : List (List Int)) (s t : Nat) : Prop := ∀ S : Nat → Prop, S s → (∀ x y, S x → stepT nx x y → S y) → S t
theorem Reach.refl (nx : List (List Int)) (s : Nat) : Reach nx s s := fun _ h _ => h
theorem Reach.step {nx : List (List Int)} {s x y : Nat} (h : Reach nx s x) (hs : stepT nx x y) : Reach nx s y := fun S h0 hc => hc x y (h S h0 hc) hs
theorem Reach.trans {nx : List (List Int)} {s x y : Nat} (h : Reach nx s x) (h2 : Reach nx x y) : Reach nx s y := fun S h0 hc => h2 S (h S h0 hc) hc
def Onward (nx : List (List Int)) (s t : Nat) : Prop := ∃ y, stepT nx s y ∧ Reach nx y t
theorem reach_iff {nx : List (List Int)} {s t : Nat} : Reach nx s t ↔ s = t ∨ Onward nx s t := by
  constructor
  · intro h
    refine h (fun t => s = t ∨ Onward nx s t) (.inl rfl) ?_
    rintro x y (rfl | ⟨z, h1, h2⟩) hxy
    · exact .inr ⟨y, hxy, Reach.refl _ _⟩
    · exact .inr ⟨z, h1, h2.step hxy⟩
  · rintro (rfl | ⟨y, h1, h2⟩)
    · exact Reach.refl _ _
    · exact ((Reach.refl nx s).step h1).trans h2

/-- all numbers in the rows are below n, or negative -/
def RowsIn (nx : List (List Int)) (n : Nat) : Prop := nx.length = n ∧ ∀ row ∈ nx, ∀ t ∈ row, t ≤ (n : Int) - 1
theorem stepT_lt {nx : List (List Int)} {n s t : Nat} (h : RowsIn nx n) (hs : stepT nx s t) : s < n ∧ t < n := by
  obtain ⟨row, h1, h2⟩ := hs
  have h3 := h.2 row (List.mem_of_getElem? h1) _ h2
  have h4 := (List.getElem?_eq_some_iff.1 h1).1
  rw [h.1] at h4
  exact ⟨h4, by omega⟩

/-- between two rounds of the outer loop -/
structure BfsOut (nx : List (List Int)) (n st : Nat) (bs : List Bool) (q : List Int) : Prop where
  len : bs.length = n
  sound : ∀ t : Nat, bs[t]? = some true → Reach nx st t
  start : bs[st]? = some true
  queue : ∀ x ∈ q, 0 ≤ x ∧ bs[x.toNat]? = some true
  done : ∀ s t : Nat, bs[s]? = some true → (s : Int) ∈ q ∨ (stepT nx s t → bs[t]? = some true)
/-- inside: the row of h is read up to j -/
structure BfsIn (nx : List (List Int)) (n st : Nat) (bs : List Bool) (h : Nat) (q : List Int) (row : List Int) (j : Nat) : Prop where
  len : bs.length = n
  sound : ∀ t : Nat, bs[t]? = some true → Reach nx st t
  start : bs[st]? = some true
  head : bs[h]? = some true
  isrow : nx[h]? = some row
  queue : ∀ x ∈ q, 0 ≤ x ∧ bs[x.toNat]? = some true
  done : ∀ s t : Nat, bs[s]? = some true → (s : Int) ∈ (h : Int) :: q ∨ (stepT nx s t → bs[t]? = some true)
  part : ∀ (i t : Nat), i < j → row[i]? = some (t : Int) → bs[t]? = some true

theorem set_true_of {bs : List Bool} {t x : Nat} (h : bs[x]? = some true) : (bs.set t true)[x]? = some true := by
  rw [List.getElem?_set]
  split
  · rename_i e; subst e
    have := (List.getElem?_eq_some_iff.1 h).1
    simp [this]
  · exact h
theorem set_true_iff {bs : List Bool} {t x : Nat} (ht : t < bs.length) : (bs.set t true)[x]? = some true ↔ x = t ∨ bs[x]? = some true := by
  rw [List.getElem?_set]
  split
  · rename_i e; subst e; simp [ht]
  · rename_i e
    constructor
    · exact .inr
    · rintro (rfl | h)
      · exact absurd rfl e
      · exact h

theorem BfsOut.init {nx : List (List Int)} {n st : Nat} (hst : st < n) : BfsOut nx n st ((List.replicate n false).set st true) [(st : Int)] := by
  have hi : ∀ t : Nat, ((List.replicate n false).set st true)[t]? = some true ↔ t = st := by
    intro t
    rw [set_true_iff (by simpa using hst), List.getElem?_replicate]
    constructor
    · rintro (h | h)
      · exact h
      · split at h <;> simp at h
    · exact .inl
  refine ⟨by simp, fun t h => ?_, (hi st).2 rfl, fun x hx => ?_, fun s t h => ?_⟩
  · rw [(hi t).1 h]; exact Reach.refl _ _
  · have : x = (st : Int) := by simpa using hx
    subst this
    exact ⟨by omega, by simpa using (hi st).2 rfl⟩
  · rw [(hi s).1 h]; exact .inl (by simp)
theorem BfsOut.enter {nx : List (List Int)} {n st h : Nat} {bs : List Bool} {q row : List Int} (hb : BfsOut nx n st bs ((h : Int) :: q)) (hr : nx[h]? = some row) : BfsIn nx n st bs h q row 0 :=
  ⟨hb.len, hb.sound, hb.start, by have := (hb.queue h (by simp)).2; simpa using this, hr, fun x hx => hb.queue x (List.mem_cons_of_mem _ hx), hb.done, fun i t hi => absurd hi (by omega)⟩
theorem BfsIn.hit {nx : List (List Int)} {n st h j : Nat} {bs : List Bool} {q row : List Int} {t : Int} (hb : BfsIn nx n st bs h q row j) (ht : row[j]? = some t) (hh : t < 0 ∨ bs[t.toNat]? = some true) : BfsIn nx n st bs h q row (j + 1) :=
  ⟨hb.len, hb.sound, hb.start, hb.head, hb.isrow, hb.queue, hb.done, fun i u hi hu => by
    by_cases hij : i < j
    · exact hb.part i u hij hu
    · have : i = j := by omega
      subst this
      rw [ht] at hu
      injection hu with hu
      subst hu
      rcases hh with hh | hh
      · omega
      · simpa using hh⟩
theorem BfsIn.new {nx : List (List Int)} {n st h j : Nat} {bs : List Bool} {q row : List Int} {t : Nat} (hb : BfsIn nx n st bs h q row j) (ht : row[j]? = some (t : Int)) (htn : t < n) : BfsIn nx n st (bs.set t true) h (q ++ [(t : Int)]) row (j + 1) := by
  have hlt : t < bs.length := by rw [hb.len]; exact htn
  have hstep : stepT nx h t := ⟨row, hb.isrow, List.mem_of_getElem? ht⟩
  refine ⟨by rw [List.length_set]; exact hb.len, fun x hx => ?_, set_true_of hb.start, set_true_of hb.head, hb.isrow, fun x hx => ?_, fun s u hs => ?_, fun i u hi hu => ?_⟩
  · rcases (set_true_iff hlt).1 hx with rfl | hx
    · exact (hb.sound h hb.head).step hstep
    · exact hb.sound x hx
  · rcases List.mem_append.1 hx with hx | hx
    · exact ⟨(hb.queue x hx).1, set_true_of (hb.queue x hx).2⟩
    · have : x = (t : Int) := by simpa using hx
      subst this
      exact ⟨by omega, (set_true_iff hlt).2 (.inl (by simp))⟩
  · rcases (set_true_iff hlt).1 hs with rfl | hs
    · exact .inl (by simp)
    · rcases hb.done s u hs with h1 | h1
      · refine .inl ?_
        rcases List.mem_cons.1 h1 with h1 | h1
        · rw [h1]; simp
        · simp [h1]
      · exact .inr fun h2 => set_true_of (h1 h2)
  · by_cases hij : i < j
    · exact set_true_of (hb.part i u hij hu)
    · have : i = j := by omega
      subst this
      rw [ht] at hu
      have : t = u := by injection hu with hu; omega
      subst this
      exact (set_true_iff hlt).2 (.inl rfl)
theorem BfsIn.leave {nx : List (List Int)} {n st h : Nat} {bs : List Bool} {q row : List Int} (hb : BfsIn nx n st bs h q row row.length) : BfsOut nx n st bs q := by
  refine ⟨hb.len, hb.sound, hb.start, hb.queue, fun s t hs => ?_⟩
  rcases hb.done s t hs with h1 | h1
  · rcases List.mem_cons.1 h1 with h1 | h1
    · have : s = h := by omega
      subst this
      refine .inr ?_
      rintro ⟨r, hr, hm⟩
      rw [hb.isrow] at hr
      injection hr with hr
      subst hr
      obtain ⟨i, hi, hie⟩ := List.getElem_of_mem hm
      exact hb.part i t hi (by rw [List.getElem?_eq_getElem hi, hie])
    · exact .inl h1
  · exact .inr h1
theorem BfsOut.fin {nx : List (List Int)} {n st : Nat} {bs : List Bool} (hb : BfsOut nx n st bs []) (t : Nat) : bs[t]? = some true ↔ Reach nx st t := by
  refine ⟨hb.sound t, fun h => h (fun t => bs[t]? = some true) hb.start fun x y hx hxy => ?_⟩
  rcases hb.done x y hx with h1 | h1
  · simp at h1
  · exact h1 hxy

/-! ### rounds until nothing more comes -/
def trues (bs : List Bool) : Nat := bs.count true
theorem trues_set {bs : List Bool} {t : Nat} (h : bs[t]? = some false) : trues (bs.set t true) = trues bs + 1 := by
  induction bs generalizing t with
  | nil => simp at h
  | cons b bs ih =>
    cases t with
    | zero =>
      have : b = false := by simpa using h
      subst this
      simp [trues]
    | succ t =>
      have := ih (t := t) (by simpa using h)
      simp only [List.set_cons_succ, trues, List.count_cons] at this ⊢
      omega
theorem trues_le (bs : List Bool) : trues bs ≤ bs.length := List.count_le_length
theorem set_true_self {bs : List Bool} {t : Nat} (h : bs[t]? = some true) : bs.set t true = bs := by
  apply List.ext_getElem?
  intro i
  rw [List.getElem?_set]
  split
  · rename_i e; subst e
    rw [h]
    have := (List.getElem?_eq_some_iff.1 h).1
    simp [this]
  · rfl

/-- the set bs has all direct followers of 'fr', and only what is onward of it -/
structure OnBase (nx : List (List Int)) (n fr : Nat) (bs : List Bool) : Prop where
  len : bs.length = n
  sound : ∀ t : Nat, bs[t]? = some true → Onward nx fr t
  base : ∀ t : Nat, stepT nx fr t → bs[t]? = some true
def ClosedB (nx : List (List Int)) (bs : List Bool) : Prop := ∀ s t : Nat, bs[s]? = some true → stepT nx s t → bs[t]? = some true
/-- the first loop, at letter j of fr's row -/
structure OnFirst (nx : List (List Int)) (n fr : Nat) (row : List Int) (bs : List Bool) (j : Nat) : Prop where
  len : bs.length = n
  isrow : nx[fr]? = some row
  sound : ∀ t : Nat, bs[t]? = some true → Onward nx fr t
  part : ∀ (i t : Nat), i < j → row[i]? = some (t : Int) → bs[t]? = some true
theorem OnFirst.init {nx : List (List Int)} {n fr : Nat} {row : List Int} (h : nx[fr]? = some row) : OnFirst nx n fr row (List.replicate n false) 0 :=
  ⟨by simp, h, fun t ht => by rw [List.getElem?_replicate] at ht; split at ht <;> simp at ht, fun i t hi => absurd hi (by omega)⟩
theorem OnFirst.skip {nx : List (List Int)} {n fr j : Nat} {row : List Int} {bs : List Bool} {t : Int} (h : OnFirst nx n fr row bs j) (ht : row[j]? = some t) (hn : t < 0) : OnFirst nx n fr row bs (j + 1) :=
  ⟨h.len, h.isrow, h.sound, fun i u hi hu => by
    by_cases hij : i < j
    · exact h.part i u hij hu
    · have : i = j := by omega
      subst this
      rw [ht] at hu
      injection hu with hu
      omega⟩
theorem OnFirst.set {nx : List (List Int)} {n fr j t : Nat} {row : List Int} {bs : List Bool} (h : OnFirst nx n fr row bs j) (ht : row[j]? = some (t : Int)) (hn : t < n) : OnFirst nx n fr row (bs.set t true) (j + 1) := by
  have hlt : t < bs.length := by rw [h.len]; exact hn
  refine ⟨by rw [List.length_set]; exact h.len, h.isrow, fun x hx => ?_, fun i u hi hu => ?_⟩
  · rcases (set_true_iff hlt).1 hx with rfl | hx
    · exact ⟨x, ⟨row, h.isrow, List.mem_of_getElem? ht⟩, Reach.refl _ _⟩
    · exact h.sound x hx
  · by_cases hij : i < j
    · exact set_true_of (h.part i u hij hu)
    · have : i = j := by omega
      subst this
      rw [ht] at hu
      have : t = u := by injection hu with hu; omega
      subst this
      exact (set_true_iff hlt).2 (.inl rfl)
theorem OnFirst.fin {nx : List (List Int)} {n fr : Nat} {row : List Int} {bs : List Bool} (h : OnFirst nx n fr row bs row.length) : OnBase nx n fr bs := by
  refine ⟨h.len, h.sound, ?_⟩
  rintro t ⟨r, hr, hm⟩
  rw [h.isrow] at hr
  injection hr with hr
  subst hr
  obtain ⟨i, hi, hie⟩ := List.getElem_of_mem hm
  exact h.part i t hi (by rw [List.getElem?_eq_getElem hi, hie])
/-- at the head of round m -/
def OnOut (nx : List (List Int)) (n fr : Nat) (bs : List Bool) (m : Nat) : Prop := OnBase nx n fr bs ∧ (ClosedB nx bs ∨ m + 1 ≤ trues bs)
theorem OnOut.init {nx : List (List Int)} {n fr : Nat} {bs : List Bool} (h : OnBase nx n fr bs) : OnOut nx n fr bs 0 := by
  refine ⟨h, ?_⟩
  by_cases h0 : trues bs = 0
  · refine .inl fun s t hs => ?_
    have := List.count_pos_iff.2 (List.mem_of_getElem? hs)
    have h1 : trues bs = bs.count true := rfl
    omega
  · exact .inr (by omega)
theorem OnOut.fin {nx : List (List Int)} {n fr : Nat} {bs : List Bool} (h : OnOut nx n fr bs n) (t : Nat) : bs[t]? = some true ↔ Onward nx fr t := by
  have hc : ClosedB nx bs := by
    rcases h.2 with h2 | h2
    · exact h2
    · have := trues_le bs
      rw [h.1.len] at this
      omega
  refine ⟨h.1.sound t, ?_⟩
  rintro ⟨y, h1, h2⟩
  exact h2 (fun t => bs[t]? = some true) (h.1.base y h1) fun x z hx hxz => hc x z hx hxz
/-- inside a round that began with bs0: rows before i are done, row i up to j -/
structure OnIn (nx : List (List Int)) (n fr : Nat) (bs0 bs : List Bool) (i j : Nat) : Prop where
  base : OnBase nx n fr bs
  mono : ∀ t : Nat, bs0[t]? = some true → bs[t]? = some true
  prog : bs = bs0 ∨ trues bs0 < trues bs
  stay : ClosedB nx bs0 → bs = bs0
  done : ∀ s t : Nat, s < i → bs0[s]? = some true → stepT nx s t → bs[t]? = some true
  part : ∀ (row : List Int) (j' t : Nat), nx[i]? = some row → j' < j → bs0[i]? = some true → row[j']? = some (t : Int) → bs[t]? = some true
theorem OnIn.init {nx : List (List Int)} {n fr : Nat} {bs : List Bool} (h : OnBase nx n fr bs) : OnIn nx n fr bs bs 0 0 :=
  ⟨h, fun _ h => h, .inl rfl, fun _ => rfl, fun s t hs => absurd hs (by omega), fun _ _ _ _ hj => absurd hj (by omega)⟩
theorem OnIn.skip {nx : List (List Int)} {n fr i j : Nat} {bs0 bs : List Bool} {row : List Int} {t : Int} (h : OnIn nx n fr bs0 bs i j) (hr : nx[i]? = some row) (ht : row[j]? = some t) (hh : bs[i]? = some false ∨ t < 0) : OnIn nx n fr bs0 bs i (j + 1) :=
  ⟨h.base, h.mono, h.prog, h.stay, h.done, fun row' j' u hr' hj hb hu => by
    by_cases hij : j' < j
    · exact h.part row' j' u hr' hij hb hu
    · have : j' = j := by omega
      subst this
      rw [hr] at hr'
      injection hr' with hr'
      subst hr'
      rw [ht] at hu
      rcases hh with hh | hh
      · rw [h.mono i hb] at hh; cases hh
      · injection hu with hu; omega⟩
theorem OnIn.set {nx : List (List Int)} {n fr i j t : Nat} {bs0 bs : List Bool} {row : List Int} (h : OnIn nx n fr bs0 bs i j) (hr : nx[i]? = some row) (ht : row[j]? = some (t : Int)) (hi : bs[i]? = some true) (hn : t < n) : OnIn nx n fr bs0 (bs.set t true) i (j + 1) := by
  have hlt : t < bs.length := by rw [h.base.len]; exact hn
  have hstep : stepT nx i t := ⟨row, hr, List.mem_of_getElem? ht⟩
  refine ⟨⟨by rw [List.length_set]; exact h.base.len, fun x hx => ?_, fun x hx => set_true_of (h.base.base x hx)⟩, fun x hx => set_true_of (h.mono x hx), ?_, fun hc => ?_, fun s u hs hb hst => set_true_of (h.done s u hs hb hst), fun row' j' u hr' hj hb hu => ?_⟩
  · rcases (set_true_iff hlt).1 hx with rfl | hx
    · obtain ⟨y, h1, h2⟩ := h.base.sound i hi
      exact ⟨y, h1, h2.step hstep⟩
    · exact h.base.sound x hx
  · obtain ⟨b, hb⟩ : ∃ b, bs[t]? = some b := ⟨_, List.getElem?_eq_getElem hlt⟩
    cases b with
    | true => rw [set_true_self hb]; exact h.prog
    | false =>
      have := trues_set hb
      rcases h.prog with h1 | h1
      · subst h1; exact .inr (by omega)
      · exact .inr (by omega)
  · have h0 := h.stay hc
    subst h0
    exact set_true_self (hc i t hi hstep)
  · by_cases hij : j' < j
    · exact set_true_of (h.part row' j' u hr' hij hb hu)
    · have : j' = j := by omega
      subst this
      rw [hr] at hr'
      injection hr' with hr'
      subst hr'
      rw [ht] at hu
      have : t = u := by injection hu with hu; omega
      subst this
      exact (set_true_iff hlt).2 (.inl rfl)
theorem OnIn.row {nx : List (List Int)} {n fr i : Nat} {bs0 bs : List Bool} {row : List Int} (h : OnIn nx n fr bs0 bs i row.length) (hr : nx[i]? = some row) : OnIn nx n fr bs0 bs (i + 1) 0 := by
  refine ⟨h.base, h.mono, h.prog, h.stay, fun s t hs hb hst => ?_, fun _ _ _ _ hj => absurd hj (by omega)⟩
  by_cases hsi : s < i
  · exact h.done s t hsi hb hst
  · have : s = i := by omega
    subst this
    obtain ⟨r, hr', hm⟩ := hst
    rw [hr] at hr'
    injection hr' with hr'
    subst hr'
    obtain ⟨j, hj, hje⟩ := List.getElem_of_mem hm
    exact h.part row j t hr hj hb (by rw [List.getElem?_eq_getElem hj, hje])
theorem OnIn.fin {nx : List (List Int)} {n fr m : Nat} {bs0 bs : List Bool} (hrows : nx.length ≤ n) (h : OnIn nx n fr bs0 bs n 0) (ho : OnOut nx n fr bs0 m) : OnOut nx n fr bs (m + 1) := by
  refine ⟨h.base, ?_⟩
  rcases h.prog with h1 | h1
  · subst h1
    refine .inl fun s t hs hst => h.done s t ?_ hs hst
    have := (List.getElem?_eq_some_iff.1 hs).1
    rw [h.base.len] at this
    exact this
  · rcases ho.2 with h2 | h2
    · have := h.stay h2
      subst this
      omega
    · exact .inr (by omega)
end Go.Proofs.Ytbhmgpclakkgbaa
