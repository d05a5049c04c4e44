/- Parts of the proof, joined into one text: DistM, SpreadM, NextM, GoalM, DistP, BackM, StepsM, AutS, GraphS, HelpStep, SetS, FromS. -/
import Derived.Test.YtgdgelkeflihpaaPartAAOKINFK
import Derived.Test.YtgdgelkeflihpaaPartGPKKMHKD
import Derived.Test.YtgdgelkeflihpaaPartHDNEGFCA
/- Plain: breadth first search finds the least number of steps to a goal. -/
namespace Go.Proofs.Ytgdgelkeflihpaa
set_option linter.unusedVariables false
set_option linter.unusedSimpArgs false

/-- a goal is n steps away from i -/
def toG (next : Nat → List Nat) (goal : Nat → Prop) : Nat → Nat → Prop
  | 0, i => goal i
  | n + 1, i => ∃ k ∈ next i, toG next goal n k
def IsDist (next : Nat → List Nat) (goal : Nat → Prop) (i : Nat) (d : Int) : Prop :=
  (d = -1 ∧ ∀ n, ¬ toG next goal n i) ∨ (0 ≤ d ∧ toG next goal d.toNat i ∧ ∀ m : Nat, m < d.toNat → ¬ toG next goal m i)
theorem IsDist.uniq {next : Nat → List Nat} {goal : Nat → Prop} {i : Nat} {d e : Int} (h : IsDist next goal i d) (k : IsDist next goal i e) : d = e := by
  rcases h with ⟨rfl, h⟩ | ⟨h0, h1, h2⟩
  · rcases k with ⟨rfl, _⟩ | ⟨_, k1, _⟩
    · rfl
    · exact absurd k1 (h _)
  · rcases k with ⟨rfl, k⟩ | ⟨k0, k1, k2⟩
    · exact absurd h1 (k _)
    · rcases Nat.lt_trichotomy d.toNat e.toNat with hlt | heq | hgt
      · exact absurd h1 (k2 _ hlt)
      · omega
      · exact absurd k1 (h2 _ hgt)

section
variable {prev next : Nat → List Nat} {goal : Nat → Prop} {N : Nat} {D : List Int} {q : List Nat}
structure BO (prev next : Nat → List Nat) (goal : Nat → Prop) (N : Nat) (D : List Int) (q : List Nat) : Prop where
  len : D.length = N
  sound : ∀ i, i < N → 0 ≤ D.getD i 0 → toG next goal (D.getD i 0).toNat i
  src : ∀ i, i < N → goal i → D.getD i 0 = 0
  done : ∀ k, k < N → 0 ≤ D.getD k 0 → k ∉ q → ∀ i ∈ prev k, 0 ≤ D.getD i 0 ∧ D.getD i 0 ≤ D.getD k 0 + 1
  top : ∀ h r, q = h :: r → ∀ i, i < N → D.getD i 0 ≤ D.getD h 0 + 1
  sorted : q.Pairwise (fun a b => D.getD a 0 ≤ D.getD b 0)
  qN : ∀ x ∈ q, x < N ∧ 0 ≤ D.getD x 0
  low : ∀ i, i < N → -1 ≤ D.getD i 0
structure BI (prev next : Nat → List Nat) (goal : Nat → Prop) (N : Nat) (D : List Int) (q : List Nat) (h : Nat) (l : List Nat) : Prop where
  len : D.length = N
  hN : h < N
  hD : 0 ≤ D.getD h 0
  sound : ∀ i, i < N → 0 ≤ D.getD i 0 → toG next goal (D.getD i 0).toNat i
  src : ∀ i, i < N → goal i → D.getD i 0 = 0
  done : ∀ k, k < N → 0 ≤ D.getD k 0 → k ∉ q → k ≠ h → ∀ i ∈ prev k, 0 ≤ D.getD i 0 ∧ D.getD i 0 ≤ D.getD k 0 + 1
  here : ∀ i ∈ prev h, i ∈ l ∨ (0 ≤ D.getD i 0 ∧ D.getD i 0 ≤ D.getD h 0 + 1)
  top : ∀ i, i < N → D.getD i 0 ≤ D.getD h 0 + 1
  qs : ∀ x ∈ q, D.getD h 0 ≤ D.getD x 0
  sorted : q.Pairwise (fun a b => D.getD a 0 ≤ D.getD b 0)
  qN : ∀ x ∈ q, x < N ∧ 0 ≤ D.getD x 0
  low : ∀ i, i < N → -1 ≤ D.getD i 0

theorem BO.enter {h : Nat} (b : BO prev next goal N D (h :: q)) : BI prev next goal N D q h (prev h) :=
  ⟨b.len, (b.qN h (by simp)).1, (b.qN h (by simp)).2, b.sound, b.src, fun k hk h0 hq hh => b.done k hk h0 (by simp [hq, hh]), fun i hi => .inl hi, b.top h q rfl,
    fun x hx => (List.pairwise_cons.1 b.sorted).1 x hx, (List.pairwise_cons.1 b.sorted).2, fun x hx => b.qN x (List.mem_cons_of_mem _ hx), b.low⟩
theorem BI.leave {h : Nat} (b : BI prev next goal N D q h []) : BO prev next goal N D q := by
  refine ⟨b.len, b.sound, b.src, fun k hk h0 hq => ?_, fun x r hx i hi => ?_, b.sorted, b.qN, b.low⟩
  · by_cases hkh : k = h
    · subst hkh
      intro i hi
      rcases b.here i hi with h | h
      · simp at h
      · exact h
    · exact b.done k hk h0 hq hkh
  · have h1 := b.top i hi
    have h2 := b.qs x (by rw [hx]; simp)
    omega
theorem BI.old {h k : Nat} {l : List Nat} (b : BI prev next goal N D q h (k :: l)) (hk : k < N) (h0 : ¬ D.getD k 0 < 0) : BI prev next goal N D q h l := by
  refine ⟨b.len, b.hN, b.hD, b.sound, b.src, b.done, fun i hi => ?_, b.top, b.qs, b.sorted, b.qN, b.low⟩
  rcases b.here i hi with h1 | h1
  · rcases List.mem_cons.1 h1 with rfl | h1
    · exact .inr ⟨by omega, b.top _ hk⟩
    · exact .inl h1
  · exact .inr h1
theorem BI.new {h k : Nat} {l : List Nat} (hpn : ∀ i k, i < N → k < N → i ∈ prev k → k ∈ next i) (hpN : ∀ i k, k < N → i ∈ prev k → i < N) (b : BI prev next goal N D q h (k :: l)) (hkp : k ∈ prev h) (h0 : D.getD k 0 < 0) :
    BI prev next goal N (D.set k (D.getD h 0 + 1)) (q ++ [k]) h l := by
  have hk : k < N := hpN k h b.hN hkp
  have hkl : k < D.length := by rw [b.len]; exact hk
  have hD := b.hD
  have hkh : k ≠ h := by intro e; subst e; omega
  have hh : (D.set k (D.getD h 0 + 1)).getD h 0 = D.getD h 0 := by rw [getD_set' hkl, if_neg (Ne.symm hkh)]
  have hset : ∀ x, x ≠ k → (D.set k (D.getD h 0 + 1)).getD x 0 = D.getD x 0 := fun x hx => by rw [getD_set' hkl, if_neg hx]
  have hsk : (D.set k (D.getD h 0 + 1)).getD k 0 = D.getD h 0 + 1 := by rw [getD_set' hkl, if_pos rfl]
  have hkq : ∀ x ∈ q, x ≠ k := fun x hx e => by subst e; have := (b.qN x hx).2; omega
  refine ⟨by rw [List.length_set]; exact b.len, b.hN, by rw [hh]; exact hD, fun i hi h1 => ?_, fun i hi hg => ?_, fun x hx h1 hxq hxh i hi => ?_, fun i hi => ?_, fun i hi => ?_, fun x hx => ?_, ?_, fun x hx => ?_, fun i hi => ?_⟩
  · by_cases e : i = k
    · subst e
      rw [hsk]
      have h2 := b.sound h b.hN hD
      rw [show (D.getD h 0 + 1).toNat = (D.getD h 0).toNat + 1 by omega]
      exact ⟨h, hpn i h hi b.hN hkp, h2⟩
    · rw [hset i e] at h1 ⊢
      exact b.sound i hi h1
  · have e : i ≠ k := by
      intro e; subst e
      have := b.src i hi hg
      omega
    rw [hset i e]
    exact b.src i hi hg
  · have e : x ≠ k := by intro e; subst e; simp at hxq
    rw [hset x e] at h1 ⊢
    have h2 := b.done x hx h1 (fun h => hxq (by simp [h])) hxh i hi
    have e2 : i ≠ k := by intro e2; subst e2; omega
    rw [hset i e2]
    exact h2
  · rw [hh]
    by_cases e : i = k
    · subst e
      refine .inr ?_
      rw [hsk]
      omega
    · rw [hset i e]
      rcases b.here i hi with h1 | h1
      · rcases List.mem_cons.1 h1 with h1 | h1
        · exact absurd h1 e
        · exact .inl h1
      · exact .inr h1
  · rw [hh]
    by_cases e : i = k
    · subst e; rw [hsk]; omega
    · rw [hset i e]; exact b.top i hi
  · rw [hh]
    rcases List.mem_append.1 hx with hx | hx
    · rw [hset x (hkq x hx)]; exact b.qs x hx
    · have : x = k := by simpa using hx
      subst this
      rw [hsk]; omega
  · rw [List.pairwise_append]
    refine ⟨?_, by simp, fun x hx y hy => ?_⟩
    · refine List.Pairwise.imp_of_mem (fun {x y} hx hy hxy => ?_) b.sorted
      rw [hset x (hkq x hx), hset y (hkq y hy)]
      exact hxy
    · have : y = k := by simpa using hy
      subst this
      rw [hset x (hkq x hx), hsk]
      exact b.top x (b.qN x hx).1
  · rcases List.mem_append.1 hx with hx | hx
    · rw [hset x (hkq x hx)]; exact b.qN x hx
    · have : x = k := by simpa using hx
      subst this
      rw [hsk]
      exact ⟨hk, by omega⟩
  · by_cases e : i = k
    · subst e; rw [hsk]; omega
    · rw [hset i e]; exact b.low i hi

theorem BI.all (hpn : ∀ i k, i < N → k < N → i ∈ prev k → k ∈ next i) (hpN : ∀ i k, k < N → i ∈ prev k → i < N) {h : Nat} : ∀ (l : List Nat) (D : List Int) (q : List Nat) (d : Int), d = D.getD h 0 + 1 → BI prev next goal N D q h l → (∀ k ∈ l, k ∈ prev h) →
    BO prev next goal N (relax d l D q).1 (relax d l D q).2 ∧ (relax d l D q).2.length + negs (relax d l D q).1 = q.length + negs D
  | [], _, _, _, _, b, _ => ⟨b.leave, rfl⟩
  | k :: l, D, q, d, hd, b, hl => by
    have hk : k < N := hpN k h b.hN (hl k (by simp))
    rw [relax]
    by_cases h0 : D.getD k 0 < 0
    · rw [if_pos h0]
      have hkl : k < D.length := by rw [b.len]; exact hk
      have hkh : k ≠ h := by intro e; subst e; have := b.hD; omega
      have h1 := BI.new hpn hpN b (hl k (by simp)) h0
      rw [← hd] at h1
      have := BI.all hpn hpN l (D.set k d) (q ++ [k]) d (by rw [getD_set' hkl, if_neg (Ne.symm hkh)]; exact hd) h1 (fun x hx => hl x (List.mem_cons_of_mem _ hx))
      refine ⟨this.1, this.2.trans ?_⟩
      have h3 := negs_set hkl h0 (d := d) (by have := b.hD; omega)
      rw [List.length_append, List.length_singleton]
      omega
    · rw [if_neg h0]
      exact BI.all hpn hpN l D q d hd (b.old hk h0) (fun x hx => hl x (List.mem_cons_of_mem _ hx))

theorem BO.fin (hnN : ∀ i k, i < N → k ∈ next i → k < N) (hnp : ∀ i k, i < N → k < N → k ∈ next i → i ∈ prev k) (b : BO prev next goal N D []) : ∀ i, i < N → IsDist next goal i (D.getD i 0) := by
  have hall : ∀ (n i : Nat), i < N → toG next goal n i → 0 ≤ D.getD i 0 ∧ D.getD i 0 ≤ n := by
    intro n
    induction n with
    | zero =>
      intro i hi h
      rw [b.src i hi h]
      omega
    | succ n ih =>
      rintro i hi ⟨k, hk, h⟩
      have hkN := hnN i k hi hk
      have h1 := ih k hkN h
      have h2 := b.done k hkN h1.1 (by simp) i (hnp i k hi hkN hk)
      omega
  intro i hi
  by_cases h0 : 0 ≤ D.getD i 0
  · exact .inr ⟨h0, b.sound i hi h0, fun m hm h => by have := hall m i hi h; omega⟩
  · refine .inl ⟨by have := b.low i hi; omega, fun n h => h0 (hall n i hi h).1⟩

theorem bfs_dist (hpn : ∀ i k, i < N → k < N → i ∈ prev k → k ∈ next i) (hpN : ∀ i k, k < N → i ∈ prev k → i < N) (hnN : ∀ i k, i < N → k ∈ next i → k < N) (hnp : ∀ i k, i < N → k < N → k ∈ next i → i ∈ prev k) :
    ∀ (f : Nat) (D : List Int) (q : List Nat), BO prev next goal N D q → q.length + negs D ≤ f → ∀ i, i < N → IsDist next goal i ((bfs prev f D q).getD i 0) := by
  intro f
  induction f with
  | zero =>
    intro D q b hf
    have : q = [] := List.eq_nil_of_length_eq_zero (by omega)
    subst this
    exact b.fin hnN hnp
  | succ f ih =>
    intro D q b hf
    cases q with
    | nil => exact b.fin hnN hnp
    | cons h q =>
      rw [bfs]
      have := BI.all hpn hpN (prev h) D q _ rfl b.enter (fun _ h => h)
      exact ih _ _ this.1 (by rw [this.2]; rw [List.length_cons] at hf; omega)

/-! ### The same by sweeps -/
/-- after the sweeps up to d: the distances up to d are known -/
def SwO (next : Nat → List Nat) (goal : Nat → Prop) (N : Nat) (D : List Int) (d : Nat) : Prop :=
  D.length = N ∧ ∀ i, i < N → (D.getD i 0 = -1 ∧ ∀ m, m ≤ d → ¬ toG next goal m i) ∨ (0 ≤ D.getD i 0 ∧ D.getD i 0 ≤ d ∧ IsDist next goal i (D.getD i 0))
/-- within the sweep for d + 1: the vertices below j are done -/
def SwI (next : Nat → List Nat) (goal : Nat → Prop) (N : Nat) (D : List Int) (d j : Nat) (ch : Bool) : Prop :=
  D.length = N ∧ (∀ i, i < N → (D.getD i 0 = -1 ∧ (∀ m, m ≤ d → ¬ toG next goal m i) ∧ (i < j → ¬ toG next goal (d + 1) i)) ∨ (0 ≤ D.getD i 0 ∧ D.getD i 0 ≤ (d : Int) + 1 ∧ IsDist next goal i (D.getD i 0))) ∧
    (ch = false → ∀ i, i < N → D.getD i 0 ≤ d)
theorem SwO.enter {d : Nat} (h : SwO next goal N D d) : SwI next goal N D d 0 false := by
  refine ⟨h.1, fun i hi => ?_, fun _ i hi => ?_⟩
  · rcases h.2 i hi with h1 | h1
    · exact .inl ⟨h1.1, h1.2, fun h => by omega⟩
    · exact .inr ⟨h1.1, by omega, h1.2.2⟩
  · rcases h.2 i hi with h1 | h1 <;> omega
theorem SwI.leave {d : Nat} {ch : Bool} (h : SwI next goal N D d N ch) : SwO next goal N D (d + 1) := by
  refine ⟨h.1, fun i hi => ?_⟩
  rcases h.2.1 i hi with h1 | h1
  · refine .inl ⟨h1.1, fun m hm => ?_⟩
    by_cases e : m = d + 1
    · subst e; exact h1.2.2 hi
    · exact h1.2.1 m (by omega)
  · exact .inr ⟨h1.1, by omega, h1.2.2⟩
theorem SwI.stop (hnN : ∀ i k, i < N → k ∈ next i → k < N) {d : Nat} (h : SwI next goal N D d N false) : ∀ i, i < N → IsDist next goal i (D.getD i 0) := by
  have hno : ∀ i, i < N → toG next goal (d + 1) i → ∃ m, m ≤ d ∧ toG next goal m i := by
    intro i hi ht
    rcases h.2.1 i hi with h1 | h1
    · exact absurd ht (h1.2.2 hi)
    · have h2 := h.2.2 rfl i hi
      rcases h1.2.2 with h3 | h3
      · omega
      · exact ⟨_, by omega, h3.2.1⟩
  have hall : ∀ (n i : Nat), i < N → toG next goal n i → ∃ m, m ≤ d ∧ toG next goal m i := by
    intro n
    induction n with
    | zero => intro i _ h; exact ⟨0, Nat.zero_le _, h⟩
    | succ n ih =>
      rintro i hi ⟨k, hk, ht⟩
      obtain ⟨m, hm, h2⟩ := ih k (hnN i k hi hk) ht
      by_cases e : m = d
      · subst e
        exact hno i hi ⟨k, hk, h2⟩
      · exact ⟨m + 1, by omega, k, hk, h2⟩
  intro i hi
  rcases h.2.1 i hi with h1 | h1
  · refine .inl ⟨h1.1, fun n hn => ?_⟩
    obtain ⟨m, hm, h2⟩ := hall n i hi hn
    exact h1.2.1 m hm h2
  · exact h1.2.2
/-- vertex j is known already, or none of its next ones is at distance d -/
theorem SwI.skip {d j : Nat} {ch : Bool} (h : SwI next goal N D d j ch) (hs : ¬ D.getD j 0 < 0 ∨ ∀ k ∈ next j, D.getD k 0 ≠ d) (hnN : ∀ i k, i < N → k ∈ next i → k < N) : SwI next goal N D d (j + 1) ch := by
  refine ⟨h.1, fun i hi => ?_, h.2.2⟩
  rcases h.2.1 i hi with h1 | h1
  · refine .inl ⟨h1.1, h1.2.1, fun hij => ?_⟩
    by_cases e : i = j
    · subst e
      rcases hs with hs | hs
      · omega
      · rintro ⟨k, hk, ht⟩
        have hkN := hnN i k hi hk
        rcases h.2.1 k hkN with h2 | h2
        · exact h2.2.1 d (Nat.le_refl _) ht
        · rcases h2.2.2 with h3 | h3
          · omega
          · have h4 : ¬ d < (D.getD k 0).toNat := fun hlt => h3.2.2 d hlt ht
            have h5 := hs k hk
            refine h1.2.1 ((D.getD k 0).toNat + 1) (by omega) ⟨k, hk, h3.2.1⟩
    · exact h1.2.2 (by omega)
  · exact .inr h1
theorem SwI.put {d j k : Nat} {ch : Bool} (h : SwI next goal N D d j ch) (hj : j < N) (h0 : D.getD j 0 < 0) (hk : k ∈ next j) (hkd : D.getD k 0 = d) (hnN : ∀ i k, i < N → k ∈ next i → k < N) : SwI next goal N (D.set j ((d : Int) + 1)) d (j + 1) true := by
  have hjl : j < D.length := by rw [h.1]; exact hj
  have hkN := hnN j k hj hk
  refine ⟨by rw [List.length_set]; exact h.1, fun i hi => ?_, fun h => by cases h⟩
  by_cases e : i = j
  · subst e
    rw [getD_set' hjl, if_pos rfl]
    rcases h.2.1 i hi with h1 | h1
    · refine .inr ⟨by omega, by omega, .inr ⟨by omega, ?_, fun m hm => h1.2.1 m (by omega)⟩⟩
      rcases h.2.1 k hkN with h2 | h2
      · omega
      · rcases h2.2.2 with h3 | h3
        · omega
        · have h4 := h3.2.1
          rw [hkd] at h4
          rw [show ((d : Int) + 1).toNat = d + 1 by omega]
          exact ⟨k, hk, by simpa using h4⟩
    · omega
  · rw [getD_set' hjl, if_neg e]
    rcases h.2.1 i hi with h1 | h1
    · exact .inl ⟨h1.1, h1.2.1, fun hij => h1.2.2 (by omega)⟩
    · exact .inr h1
end

/-- the lists turned round -/
def turnL (N : Nat) (next : Nat → List Nat) (k : Nat) : List Nat := (List.range N).flatMap fun i => (next i).filterMap fun x => if x = k then some i else none
theorem mem_turnL {N : Nat} {next : Nat → List Nat} {i k : Nat} : i ∈ turnL N next k ↔ i < N ∧ k ∈ next i := by
  unfold turnL
  simp only [List.mem_flatMap, List.mem_range, List.mem_filterMap]
  constructor
  · rintro ⟨j, hj, x, hx, he⟩
    by_cases h : x = k
    · rw [if_pos h] at he
      injection he with he
      subst h he
      exact ⟨hj, hx⟩
    · rw [if_neg h] at he; cases he
  · rintro ⟨hi, hk⟩
    exact ⟨i, hi, k, hk, by simp⟩
end Go.Proofs.Ytgdgelkeflihpaa

/- Plain: breadth first search from some vertices. -/
namespace Go.Proofs.Ytgdgelkeflihpaa
set_option linter.unusedVariables false
set_option linter.unusedSimpArgs false

def srcD (N : Nat) (fs : List Nat) : List Int := fs.foldl (fun D i => D.set i 0) (List.replicate N (-1))
theorem srcD_len (N : Nat) (fs : List Nat) : (srcD N fs).length = N := by
  have h : ∀ (fs : List Nat) (D : List Int), (fs.foldl (fun D i => D.set i 0) D).length = D.length := by
    intro fs
    induction fs with
    | nil => intro D; rfl
    | cons x fs ih => intro D; rw [List.foldl_cons, ih, List.length_set]
  rw [srcD, h, List.length_replicate]
theorem srcD_at {N : Nat} {fs : List Nat} {i : Nat} (hi : i < N) : (srcD N fs).getD i 0 = if i ∈ fs then 0 else -1 := by
  have h : ∀ (fs : List Nat) (D : List Int), i < D.length → (fs.foldl (fun D i => D.set i 0) D).getD i 0 = if i ∈ fs then 0 else D.getD i 0 := by
    intro fs
    induction fs with
    | nil => intro D _; simp
    | cons x fs ih =>
      intro D hD
      rw [List.foldl_cons, ih _ (by rw [List.length_set]; exact hD)]
      by_cases h1 : i ∈ fs
      · simp [h1]
      · rw [if_neg h1]
        by_cases h2 : i = x
        · subst h2
          rw [getD_set' hD, if_pos rfl]; simp
        · have hx : (D.set x 0).getD i 0 = D.getD i 0 := by
            simp only [List.getD, List.getElem?_set]
            rw [if_neg (fun e => h2 e.symm)]
          rw [hx, if_neg (by simp [h1, h2])]
  rw [srcD, h fs _ (by simpa using hi)]
  simp [List.getD, List.getElem?_replicate, hi]
theorem srcD_snoc (N : Nat) (fs : List Nat) (x : Nat) : srcD N (fs ++ [x]) = (srcD N fs).set x 0 := by simp [srcD, List.foldl_append]
theorem srcD_out {N : Nat} {fs : List Nat} {i : Nat} (hi : ¬ i < N) : (srcD N fs).getD i 0 = 0 := by
  simp only [List.getD]
  rw [List.getElem?_eq_none (by rw [srcD_len]; omega)]
  rfl
theorem negs_le (D : List Int) : negs D ≤ D.length := List.countP_le_length
theorem srcD_bfsI {N : Nat} {fs : List Nat} (hfs : ∀ i ∈ fs, i < N) : BfsI N (fs.length + N) (fs.length + N) (srcD N fs) fs := by
  have hv : ∀ i, (srcD N fs).getD i 0 = 0 ∨ (srcD N fs).getD i 0 = -1 := by
    intro i
    by_cases hi : i < N
    · rw [srcD_at hi]
      split
      · exact .inl rfl
      · exact .inr rfl
    · exact .inl (srcD_out hi)
  refine ⟨srcD_len N fs, fun h hh => ⟨hfs h hh, ?_⟩, ?_, fun h => ?_, fun h => ?_, Nat.le_refl _⟩
  · rw [srcD_at (hfs h hh), if_pos hh]; omega
  · have := negs_le (srcD N fs)
    rw [srcD_len] at this
    omega
  · rcases hv h with h1 | h1 <;> rw [h1] <;> omega
  · rcases hv h with h1 | h1 <;> rw [h1] <;> omega
def spreadR (N : Nat) (next : Nat → List Nat) (fs : List Nat) : List Int := bfs next (fs.length + N) (srcD N fs) fs
theorem spreadR_len (N : Nat) (next : Nat → List Nat) (fs : List Nat) : (spreadR N next fs).length = N := by rw [spreadR, bfs_len, srcD_len]

/-- from the goals, the rows turned round: the least number of steps to a goal -/
theorem spread_dist {N : Nat} {next : Nat → List Nat} {fs : List Nat} (hfs : ∀ i ∈ fs, i < N) (hn : ∀ i k, i < N → k ∈ next i → k < N) (i : Nat) (hi : i < N) :
    IsDist next (fun i => i ∈ fs) i ((spreadR N (turnL N next) fs).getD i 0) := by
  refine bfs_dist (prev := turnL N next) (fun i k _ _ h => (mem_turnL.1 h).2) (fun i k _ h => (mem_turnL.1 h).1) hn (fun i k hi _ h => mem_turnL.2 ⟨hi, h⟩) _ _ _ ?_ (srcD_bfsI hfs).fuel i hi
  refine ⟨srcD_len N fs, fun i hi h0 => ?_, fun i hi hg => ?_, fun k hk h0 hq => ?_, fun h r hq i hi => ?_, ?_, (srcD_bfsI hfs).queue, fun i hi => (srcD_bfsI hfs).low i⟩
  · rw [srcD_at hi] at h0 ⊢
    by_cases h : i ∈ fs
    · rw [if_pos h]; exact h
    · rw [if_neg h] at h0; omega
  · rw [srcD_at hi, if_pos hg]
  · rw [srcD_at hk, if_neg hq] at h0; omega
  · have hm : h ∈ fs := by rw [hq]; simp
    have e1 := srcD_at (fs := fs) (hfs h hm)
    rw [if_pos hm] at e1
    rw [srcD_at hi, e1]
    split <;> omega
  · have : ∀ l : List Nat, (∀ x ∈ l, x ∈ fs) → l.Pairwise (fun a b => (srcD N fs).getD a 0 ≤ (srcD N fs).getD b 0) := by
      intro l
      induction l with
      | nil => intro _; simp
      | cons x l ih =>
        intro hl
        refine List.pairwise_cons.2 ⟨fun y hy => ?_, ih fun z hz => hl z (List.mem_cons_of_mem _ hz)⟩
        have h1 := hl x (by simp)
        have h2 := hl y (List.mem_cons_of_mem _ hy)
        rw [srcD_at (hfs x h1), srcD_at (hfs y h2), if_pos h1, if_pos h2]
        omega
    exact this fs (fun _ h => h)
theorem relax_mid (d : Int) (k : Nat) (l : List Nat) (D : List Int) (q : List Nat) (h : D.getD k 0 < 0) : relax d (k :: l) D q = relax d l (D.set k d) (q ++ [k]) := by rw [relax, if_pos h]
theorem relax_old (d : Int) (k : Nat) (l : List Nat) (D : List Int) (q : List Nat) (h : ¬ D.getD k 0 < 0) : relax d (k :: l) D q = relax d l D q := by rw [relax, if_neg h]
end Go.Proofs.Ytgdgelkeflihpaa

/- Plain: the rows of vertices behind each vertex, filled vertex by vertex; the rows turned round. -/
namespace Go.Proofs.Ytgdgelkeflihpaa
set_option linter.unusedVariables false
set_option linter.unusedSimpArgs false

/-- rows below i are whole, row i holds cur, the others are empty -/
def fillTo (N : Nat) (next : Nat → List Nat) (i : Nat) (cur : List Nat) : List (List Nat) := (List.range N).map fun m => if m < i then next m else if m = i then cur else []
theorem fill_at {N i m : Nat} {next : Nat → List Nat} {cur : List Nat} (h : m < N) : (fillTo N next i cur)[m]? = some (if m < i then next m else if m = i then cur else []) := by simp [fillTo, h]
theorem fill_cur {N i : Nat} {next : Nat → List Nat} {cur : List Nat} (h : i < N) : (fillTo N next i cur)[i]? = some cur := by rw [fill_at h, if_neg (by omega), if_pos rfl]
theorem fill_len (N i : Nat) (next : Nat → List Nat) (cur : List Nat) : (fillTo N next i cur).length = N := by simp [fillTo]
theorem fill_zero (N : Nat) (next : Nat → List Nat) : fillTo N next 0 [] = List.replicate N [] := by
  apply List.ext_getElem?
  intro x
  by_cases h : x < N
  · rw [fill_at h, List.getElem?_replicate, if_pos h]; simp
  · rw [List.getElem?_eq_none (by rw [fill_len]; omega), List.getElem?_eq_none (by rw [List.length_replicate]; omega)]
theorem fill_push {N i : Nat} {next : Nat → List Nat} {cur : List Nat} (v : List Nat) (h : i < N) : (fillTo N next i cur).set i v = fillTo N next i v := by
  apply List.ext_getElem?
  intro x
  rw [List.getElem?_set, fill_len]
  by_cases hx : x < N
  · by_cases e : i = x
    · subst e
      rw [if_pos rfl, if_pos h, fill_cur h]
    · rw [if_neg e, fill_at hx, fill_at hx]
      have : ¬ x = i := fun h => e h.symm
      simp [this]
  · rw [List.getElem?_eq_none (l := fillTo N next i v) (by rw [fill_len]; omega)]
    rw [if_neg (by omega), List.getElem?_eq_none (by rw [fill_len]; omega)]
theorem fill_next {N i : Nat} {next : Nat → List Nat} : fillTo N next i (next i) = fillTo N next (i + 1) [] := by
  unfold fillTo
  apply List.map_congr_left
  intro m _
  by_cases h1 : m < i
  · rw [if_pos h1, if_pos (by omega)]
  · by_cases h2 : m = i
    · subst h2
      rw [if_neg h1, if_pos rfl, if_pos (by omega)]
    · rw [if_neg h1, if_neg h2, if_neg (by omega)]
      split <;> rfl
theorem fill_all (N : Nat) (next : Nat → List Nat) : fillTo N next N [] = (List.range N).map next := by
  unfold fillTo
  apply List.map_congr_left
  intro m hm
  rw [if_pos (List.mem_range.1 hm)]
theorem nextI_at {g : Gr} {a : Au} {x s : Nat} (hs : s < a.accept.length) : nextI g a (x * a.accept.length + s) = nextV g a x s := by
  unfold nextI
  rw [Nat.add_comm, Nat.add_mul_div_right _ _ (by omega), Nat.div_eq_of_lt hs, Nat.add_mul_mod_self_right, Nat.mod_eq_of_lt hs, Nat.zero_add]
theorem vert_lt {n m x s : Nat} (hx : x < m) (hs : s < n) : x * n + s < m * n := by
  have := Nat.mul_le_mul_right n (show x + 1 ≤ m by omega)
  rw [Nat.succ_mul] at this
  omega

/-- the rows turned round, by the first i rows and j entries of row i -/
def turnTo (N : Nat) (next : Nat → List Nat) (i : Nat) (cur : List Nat) : List (List Nat) := (List.range N).map fun k => ((List.range i).flatMap fun m => (next m).filterMap fun x => if x = k then some m else none) ++ cur.filterMap fun x => if x = k then some i else none
theorem turn_at {N i k : Nat} {next : Nat → List Nat} {cur : List Nat} (h : k < N) : (turnTo N next i cur)[k]? = some (((List.range i).flatMap fun m => (next m).filterMap fun x => if x = k then some m else none) ++ cur.filterMap fun x => if x = k then some i else none) := by simp [turnTo, h]
theorem turn_len (N i : Nat) (next : Nat → List Nat) (cur : List Nat) : (turnTo N next i cur).length = N := by simp [turnTo]
theorem turn_zero (N : Nat) (next : Nat → List Nat) : turnTo N next 0 [] = List.replicate N [] := by
  apply List.ext_getElem?
  intro x
  by_cases h : x < N
  · rw [turn_at h, List.getElem?_replicate, if_pos h]; simp
  · rw [List.getElem?_eq_none (by rw [turn_len]; omega), List.getElem?_eq_none (by rw [List.length_replicate]; omega)]
theorem turn_push {N i k : Nat} {next : Nat → List Nat} {cur row : List Nat} (h : k < N) (hr : (turnTo N next i cur)[k]? = some row) : (turnTo N next i cur).set k (row ++ [i]) = turnTo N next i (cur ++ [k]) := by
  apply List.ext_getElem?
  intro x
  rw [List.getElem?_set, turn_len]
  by_cases hx : x < N
  · by_cases e : k = x
    · subst e
      rw [turn_at h] at hr
      injection hr with hr
      rw [if_pos rfl, if_pos h, turn_at h, ← hr, List.filterMap_append]
      simp
    · rw [if_neg e, turn_at hx, turn_at hx, List.filterMap_append]
      simp [e]
  · rw [List.getElem?_eq_none (l := turnTo N next i (cur ++ [k])) (by rw [turn_len]; omega)]
    rw [if_neg (by omega), List.getElem?_eq_none (by rw [turn_len]; omega)]
theorem turn_next {N i : Nat} {next : Nat → List Nat} : turnTo N next i (next i) = turnTo N next (i + 1) [] := by
  unfold turnTo
  apply List.map_congr_left
  intro k _
  rw [List.range_succ, List.flatMap_append]
  simp
theorem turn_all (N : Nat) (next : Nat → List Nat) : turnTo N next N [] = (List.range N).map (turnL N next) := by
  unfold turnTo turnL
  apply List.map_congr_left
  intro k _
  simp
end Go.Proofs.Ytgdgelkeflihpaa

/- Plain: the vertices of a node that accept. -/
namespace Go.Proofs.Ytgdgelkeflihpaa
set_option linter.unusedVariables false
set_option linter.unusedSimpArgs false
def goalsTo (g : Gr) (a : Au) (y i : Nat) : List Nat := ((List.range i).filter (accC a (valAt g y))).map fun s => y * a.accept.length + s
def goalsL (g : Gr) (a : Au) (y : Nat) : List Nat := goalsTo g a y a.accept.length
theorem goalsTo_yes {g : Gr} {a : Au} {y i : Nat} (h : accC a (valAt g y) i = true) : goalsTo g a y (i + 1) = goalsTo g a y i ++ [y * a.accept.length + i] := by
  unfold goalsTo
  rw [List.range_succ, List.filter_append, List.map_append]
  simp [h]
theorem goalsTo_no {g : Gr} {a : Au} {y i : Nat} (h : accC a (valAt g y) i = false) : goalsTo g a y (i + 1) = goalsTo g a y i := by
  unfold goalsTo
  rw [List.range_succ, List.filter_append, List.map_append]
  simp [h]
theorem goalsTo_len (g : Gr) (a : Au) (y i : Nat) : (goalsTo g a y i).length ≤ i := by
  unfold goalsTo
  rw [List.length_map]
  have := List.length_filter_le (accC a (valAt g y)) (List.range i)
  rw [List.length_range] at this
  exact this
theorem mem_goalsL {g : Gr} {a : Au} {y v : Nat} : v ∈ goalsL g a y ↔ ∃ s, s < a.accept.length ∧ accC a (valAt g y) s = true ∧ v = y * a.accept.length + s := by
  unfold goalsL goalsTo
  simp only [List.mem_map, List.mem_filter, List.mem_range]
  constructor
  · rintro ⟨s, ⟨h1, h2⟩, rfl⟩; exact ⟨s, h1, h2, rfl⟩
  · rintro ⟨s, h1, h2, rfl⟩; exact ⟨s, ⟨h1, h2⟩, rfl⟩
end Go.Proofs.Ytgdgelkeflihpaa

/- Plain: the distances to a node, and the shortest length. -/
namespace Go.Proofs.Ytgdgelkeflihpaa
set_option linter.unusedVariables false
set_option linter.unusedSimpArgs false
def distTo (g : Gr) (a : Au) (y : Int) : List Int :=
  if (wi y 0 ((g.vals.length : Int) - 1) && (grOk g && auOk a)) = true then spreadR (g.vals.length * a.accept.length) (turnL (g.vals.length * a.accept.length) (nextI g a)) (goalsL g a y.toNat) else []
def shortLen (g : Gr) (a : Au) (x y : Int) : Int :=
  if (wi x 0 ((g.vals.length : Int) - 1) && (wi y 0 ((g.vals.length : Int) - 1) && (grOk g && auOk a))) = true then (distTo g a y).getD (x.toNat * a.accept.length + a.start.toNat) 0 else -1
theorem distTo_len {g : Gr} {a : Au} {y : Int} (h : (wi y 0 ((g.vals.length : Int) - 1) && (grOk g && auOk a)) = true) : (distTo g a y).length = g.vals.length * a.accept.length := by rw [distTo, if_pos h, spreadR_len]
end Go.Proofs.Ytgdgelkeflihpaa

/- Plain: the distances to a node by sweeps, as the reference finds them. -/
namespace Go.Proofs.Ytgdgelkeflihpaa
set_option linter.unusedVariables false
set_option linter.unusedSimpArgs false
/-- the first list -/
def ini (g : Gr) (a : Au) (y z : Nat) : Int := if (z / a.accept.length == y && accC a (valAt g y) (z % a.accept.length)) = true then 0 else -1
def iniL (g : Gr) (a : Au) (y k : Nat) : List Int := (List.range k).map (ini g a y)
theorem iniL_len (g : Gr) (a : Au) (y k : Nat) : (iniL g a y k).length = k := by simp [iniL]
theorem iniL_snoc (g : Gr) (a : Au) (y k : Nat) : iniL g a y (k + 1) = iniL g a y k ++ [ini g a y k] := by simp [iniL, List.range_succ]
theorem iniL_at {g : Gr} {a : Au} {y k i : Nat} (h : i < k) : (iniL g a y k).getD i 0 = ini g a y i := by simp [iniL, List.getD, h]
theorem ini_goal {g : Gr} {a : Au} {y z : Nat} (hn : 0 < a.accept.length) : (z / a.accept.length == y && accC a (valAt g y) (z % a.accept.length)) = true ↔ z ∈ goalsL g a y := by
  rw [mem_goalsL, Bool.and_eq_true, beq_iff_eq]
  constructor
  · rintro ⟨rfl, h⟩
    exact ⟨z % a.accept.length, Nat.mod_lt _ hn, h, by rw [Nat.mul_comm]; exact (Nat.div_add_mod z _).symm⟩
  · rintro ⟨s, hs, hc, rfl⟩
    have h1 : (y * a.accept.length + s) / a.accept.length = y := by rw [Nat.mul_comm, Nat.mul_add_div hn, Nat.div_eq_of_lt hs]; rfl
    have h2 : (y * a.accept.length + s) % a.accept.length = s := by rw [Nat.mul_comm, Nat.mul_add_mod, Nat.mod_eq_of_lt hs]
    rw [h1, h2]
    exact ⟨rfl, hc⟩
theorem ini_SwO {g : Gr} {a : Au} {y N : Nat} (hn : 0 < a.accept.length) (next : Nat → List Nat) : SwO next (fun i => i ∈ goalsL g a y) N (iniL g a y N) 0 := by
  refine ⟨iniL_len .., fun i hi => ?_⟩
  rw [iniL_at hi, ini]
  by_cases h : (i / a.accept.length == y && accC a (valAt g y) (i % a.accept.length)) = true
  · rw [if_pos h]
    exact .inr ⟨Int.le_refl _, Int.le_refl _, .inr ⟨Int.le_refl _, (ini_goal hn).1 h, fun m hm => absurd hm (by simp)⟩⟩
  · rw [if_neg h]
    refine .inl ⟨rfl, fun m hm => ?_⟩
    obtain rfl : m = 0 := by omega
    exact fun hg => h ((ini_goal hn).2 hg)
/-- what the sweeps find is what the search found -/
theorem sweep_eq {g : Gr} {a : Au} {y : Nat} (hg : grOk g = true) (ha : auOk a = true) (hy : y < g.vals.length) {D : List Int} (hl : D.length = g.vals.length * a.accept.length)
    (h : ∀ i, i < g.vals.length * a.accept.length → IsDist (nextI g a) (fun i => i ∈ goalsL g a y) i (D.getD i 0)) : D = distTo g a (y : Int) := by
  have hd : (wi (y : Int) 0 ((g.vals.length : Int) - 1) && (grOk g && auOk a)) = true := by
    simp only [Bool.and_eq_true]
    exact ⟨by rw [wi_iff]; omega, hg, ha⟩
  have hN : ∀ i k, i < g.vals.length * a.accept.length → k ∈ nextI g a i → k < g.vals.length * a.accept.length := fun i k _ hk => nextV_lt (grOk_iff.1 hg) ha hk
  have hfs : ∀ i ∈ goalsL g a y, i < g.vals.length * a.accept.length := fun i hi => by
    obtain ⟨s, hs, _, rfl⟩ := mem_goalsL.1 hi
    calc y * a.accept.length + s < y * a.accept.length + a.accept.length := by omega
      _ = (y + 1) * a.accept.length := by rw [Nat.add_mul, Nat.one_mul]
      _ ≤ _ := Nat.mul_le_mul_right _ hy
  rw [distTo, if_pos hd, Int.toNat_natCast]
  refine List.ext_getElem (by rw [hl, spreadR_len]) fun i h1 h2 => ?_
  have hi : i < g.vals.length * a.accept.length := by omega
  have e := (h i hi).uniq (spread_dist hfs hN i hi)
  simpa [List.getD, h1, h2] using e
/-! ### The sweeps' rounds -/
section
variable {next : Nat → List Nat} {goal : Nat → Prop} {N : Nat} {D D0 : List Int} {e i k : Nat} {ch ch0 : Bool}
/-- within a sweep, at vertex i, with k of its next ones looked at -/
def KI (next : Nat → List Nat) (D0 : List Int) (ch0 : Bool) (e i k : Nat) (D : List Int) (ch : Bool) : Prop :=
  (D = D0 ∧ ch = ch0 ∧ ∀ v ∈ (next i).take k, D0.getD v 0 ≠ (e : Int)) ∨ (D = D0.set i ((e : Int) + 1) ∧ ch = true ∧ D0.getD i 0 < 0 ∧ ∃ v ∈ next i, D0.getD v 0 = (e : Int))
def CI (e N : Nat) (D : List Int) (ch : Bool) : Prop := e + negs D ≤ N ∧ (ch = true → e + negs D + 1 ≤ N)
/-- after sweeps -/
def SW (next : Nat → List Nat) (goal : Nat → Prop) (N e : Nat) (D : List Int) (ch : Bool) : Prop :=
  D.length = N ∧ (ch = true → SwO next goal N D e ∧ e + negs D ≤ N) ∧ (ch = false → ∀ i, i < N → IsDist next goal i (D.getD i 0))
theorem KI.start : KI next D0 ch0 e i 0 D0 ch0 := .inl ⟨rfl, rfl, by simp⟩
theorem KI.len (h : KI next D0 ch0 e i k D ch) : D.length = D0.length := by
  rcases h with ⟨rfl, _⟩ | ⟨rfl, _⟩ <;> simp
theorem KI.neg (h : KI next D0 ch0 e i k D ch) (hi : i < D0.length) (hn : D.getD i 0 < 0) : D = D0 ∧ ch = ch0 ∧ ∀ v ∈ (next i).take k, D0.getD v 0 ≠ (e : Int) := by
  rcases h with h | ⟨rfl, _⟩
  · exact h
  · rw [getD_set' hi, if_pos rfl] at hn
    omega
theorem KI.miss (h : KI next D0 ch0 e i k D ch) (hi : i < D0.length) (hn : D.getD i 0 < 0) {v : Nat} (hv : (next i)[k]? = some v) (hd : ¬ D.getD v 0 = (e : Int)) : KI next D0 ch0 e i (k + 1) D ch := by
  obtain ⟨rfl, rfl, h3⟩ := h.neg hi hn
  refine .inl ⟨rfl, rfl, fun x hx => ?_⟩
  rw [take_snoc hv, List.mem_append, List.mem_singleton] at hx
  rcases hx with hx | rfl
  · exact h3 x hx
  · exact hd
theorem KI.hit (h : KI next D0 ch0 e i k D ch) (hi : i < D0.length) (hn : D.getD i 0 < 0) {v : Nat} (hv : (next i)[k]? = some v) (hd : D.getD v 0 = (e : Int)) : KI next D0 ch0 e i (k + 1) (D.set i ((e : Int) + 1)) true := by
  obtain ⟨rfl, rfl, h3⟩ := h.neg hi hn
  exact .inr ⟨rfl, rfl, hn, v, List.mem_of_getElem? hv, hd⟩
theorem KI.fin (h : KI next D0 ch0 e i k D ch) (hs : SwI next goal N D0 e i ch0) (hi : i < N) (hk : (next i).length ≤ k ∨ ¬ D.getD i 0 < 0) (hnN : ∀ i k, i < N → k ∈ next i → k < N) : SwI next goal N D e (i + 1) ch := by
  rcases h with ⟨rfl, rfl, h3⟩ | ⟨rfl, rfl, h3, v, hv, hd⟩
  · refine hs.skip ?_ hnN
    rcases hk with hk | hk
    · exact .inr fun v hv => h3 v (by rw [List.take_of_length_le hk]; exact hv)
    · exact .inl hk
  · exact hs.put hi h3 hv hd hnN
theorem KI.cnt (h : KI next D0 ch0 e i k D ch) (hc : CI e N D0 ch0) (hi : i < D0.length) : CI e N D ch := by
  rcases h with ⟨rfl, rfl, _⟩ | ⟨rfl, rfl, h3, _⟩
  · exact hc
  · have h1 := negs_set (k := i) (d := (e : Int) + 1) hi h3 (by omega)
    have h2 := hc.1
    exact ⟨by omega, fun _ => by omega⟩
theorem SW.enter (h : SW next goal N e D true) : SwI next goal N D e 0 false ∧ CI e N D false := ⟨(h.2.1 rfl).1.enter, (h.2.1 rfl).2, by simp⟩
theorem SW.leave (h : SwI next goal N D e N ch) (hc : CI e N D ch) (hnN : ∀ i k, i < N → k ∈ next i → k < N) : SW next goal N (e + 1) D ch := by
  refine ⟨h.1, fun ht => ⟨h.leave, ?_⟩, fun hf => ?_⟩
  · have := hc.2 ht; omega
  · subst hf; exact h.stop hnN
theorem SW.ini (h : SwO next goal N D 0) : SW next goal N 0 D true := by
  refine ⟨h.1, fun _ => ⟨h, ?_⟩, by simp⟩
  have := List.countP_le_length (p := fun x : Int => decide (x < 0)) (l := D)
  rw [h.1] at this
  simpa [negs] using this
theorem CI.le (h : CI e N D ch) : e ≤ N := by have := h.1; omega
end
end Go.Proofs.Ytgdgelkeflihpaa

/- Plain: the steps of the product from a vertex, as the reference lists them. -/
namespace Go.Proofs.Ytgdgelkeflihpaa
set_option linter.unusedVariables false
set_option linter.unusedSimpArgs false
abbrev PS := St × Int × Int
def psA (g : Gr) (a : Au) (x s : Nat) (y : Arc) : List PS := (mem 12 (aft a (bit s) (valAt g x) y.2.1.toNat)).map fun (q : Nat) => (y.1, y.2.2, (q : Int))
def prodSteps (g : Gr) (a : Au) (x s : Nat) : List PS := (arcsOf g (x : Int)).flatMap (psA g a x s)
def psV (n : Nat) (p : PS) : Nat := p.2.1.toNat * n + p.2.2.toNat
theorem psV_next (g : Gr) (a : Au) (x s : Nat) : (prodSteps g a x s).map (psV a.accept.length) = nextV g a x s := by
  unfold prodSteps nextV
  rw [List.map_flatMap]
  congr 1
  funext y
  unfold psA nextA
  rw [List.map_map]
  apply List.map_congr_left
  intro q _
  simp [psV]
theorem psA_len (g : Gr) (a : Au) (x s : Nat) (y : Arc) : (psA g a x s y).length ≤ 12 := by rw [psA, List.length_map]; exact mem_len _ _
theorem prodSteps_len {g : Gr} (hg : GrOk g) (a : Au) (x s : Nat) : (prodSteps g a x s).length ≤ 288 := by
  have h2 := flat_len (psA_len g a x s) (arcsOf g (x : Int))
  have h3 := arcs_len hg (x : Int)
  unfold prodSteps
  omega
theorem prodSteps_range {g : Gr} {a : Au} (hg : GrOk g) (ha : auOk a = true) {x s : Nat} {p : PS} (h : p ∈ prodSteps g a x s) : (0 ≤ p.2.1 ∧ p.2.1 ≤ (g.vals.length : Int) - 1) ∧ 0 ≤ p.2.2 ∧ p.2.2 < (a.accept.length : Int) := by
  obtain ⟨y, hy, hp⟩ := List.mem_flatMap.1 h
  obtain ⟨q, hq, rfl⟩ := List.mem_map.1 hp
  have h1 := (arc_range hg hy).2
  have h2 := aft_lt ha (bit s) (valAt g x) y.2.1.toNat
  rw [mem12 ha h2, mem_mem] at hq
  exact ⟨h1, by simp only; omega, by simp only; omega⟩
def foldTo (a : Au) (l set q : Nat) : Nat := (mem q set).foldl (aft1 a l) 0
theorem foldTo_no {a : Au} {l set q : Nat} (h : set.testBit q = false) : foldTo a l set (q + 1) = foldTo a l set q := by rw [foldTo, mem_no h]; rfl
theorem foldTo_yes {a : Au} {l set q : Nat} (h : set.testBit q = true) : foldTo a l set (q + 1) = aft1 a l (foldTo a l set q) q := by rw [foldTo, mem_yes h, List.foldl_append]; rfl
theorem foldTo_lt {a : Au} (h : auOk a = true) (l set q : Nat) : foldTo a l set q < 2 ^ a.accept.length := foldl_inv (P := fun m => m < 2 ^ a.accept.length) (fun m x hm => aft1_lt h l m x hm) _ _ (Nat.two_pow_pos _)
theorem foldTo_all {a : Au} (h : auOk a = true) {v s l : Nat} (hs : s < a.accept.length) : foldTo a l (cls a v s) a.accept.length = aft a (bit s) v l := by
  rw [aft_one v l (show s < 12 by have := (auOk_iff.1 h).1.2; omega), mem12 h (cls_lt h v s hs)]; rfl
end Go.Proofs.Ytgdgelkeflihpaa

/- The reference's functions on automata. -/
namespace Go.Proofs.Ytgdgelkeflihpaa
set_option linter.unusedVariables false
set_option linter.unusedSimpArgs false
open Go.ChangeShapes Go.WideShapes Go.ChangeAt Go.RowKit
attribute [local go_sem] ext_cell ext_frozen ext_lt ext_lt1 ext_lt2 ext_lt3 ltn2 ltn3 ltn13 lts1 lts2 lts3

theorem l1In_any (n a b : Int) (w : World) : Calls Try.prog 67 #[.int .i64 n, .int .i64 a, .int .i64 b] w fun e w' => e = .returned (.bool (wi n a b)) ∧ w' = w := by
  unfold wi
  by_cases h1 : a ≤ n
  · have e1 : decide (a ≤ n) = true := by simpa using h1
    by_cases h2 : n ≤ b
    · go_enter Try.func67, Try.ntmps67
      go_wp2
      go_ret
      exact ⟨by simp [h1, h2], rfl⟩
    · go_enter Try.func67, Try.ntmps67
      go_wp2
      go_ret
      exact ⟨by simp [h1]; try omega, rfl⟩
  · have e1 : decide (a ≤ n) = false := by simpa using h1
    go_enter Try.func67, Try.ntmps67
    go_wp2
    go_ret
    exact ⟨by simp [h1]; try omega, rfl⟩

def auFits (a : Au) : Bool := wi a.start 0 ((a.accept.length : Int) - 1) && (a.next.length == a.accept.length) && a.next.all (rowOk a.accept.length)
theorem auFits_ok (a : Au) : (decide (a.accept.length ≤ 12) && auFits a) = auOk a := by
  rw [Bool.eq_iff_iff]
  simp only [auFits, auOk, Bool.and_eq_true, decide_eq_true_eq, wi_iff, beq_iff_eq]
  constructor
  · rintro ⟨h1, ⟨h2, h3⟩, h4⟩
    exact ⟨⟨⟨by omega, h2⟩, h3⟩, h4⟩
  · rintro ⟨⟨⟨h1, h2⟩, h3⟩, h4⟩
    exact ⟨by omega, ⟨h2, h3⟩, h4⟩

set_option maxHeartbeats 1000000 in
theorem l11Fits_any (v : Value) (a : Au) (w : World) (hv : AuV 0 w.heap.size w v a) :
    Calls Try.prog 141 #[v] w fun e w' => e = .returned (.bool (auFits a)) ∧ Below w.heap.size w w' := by
  obtain ⟨ac, nx, rfl, ⟨A1, c1, rfl, hl1, hm1, -⟩, us, ⟨A2, c2, rfl, hl2, hm2, hx2⟩, hul, hrows⟩ := hv
  rw [hul] at hl2 ⊢
  have HU := Lib.hid hul
  clear hul
  unfold maxLen at hm1 hm2
  have hb0 : Below w.heap.size w (w.alloc (.cells #[.int .i64 a.start, .slice A1 a.accept.length c1, .slice A2 a.next.length c2] 29)) := (Below.refl _ _).alloc (Nat.le_refl _) _
  have HW := Lib.hid l1In_any
  by_cases g2 : wi a.start 0 ((a.accept.length : Int) - 1) = true
  · by_cases g3 : a.next.length = a.accept.length
    · have HG3 := Lib.hid g3
      have g3' : ((a.next.length : Int) != (a.accept.length : Int)) = false := by simp; omega
      have hr : auFits a = a.next.all (rowOk a.accept.length) := by simp [auFits, g2, g3]
      have HR := Lib.hid hr
      clear hr g3
      obtain ⟨hn1, hn2⟩ := wi_iff.1 g2
      go_enter Try.func141, Try.ntmps141
      go_wp2_with (go_at_call 67; refine (HW.out _ _ _ _).mono ?_; rintro e w' ⟨rfl, rfl⟩)
      go_loop [4, 5] (fun ii jj => ∃ i : Nat, i ≤ a.accept.length ∧ ii = .int .i64 i ∧ (a.next.take i).all (rowOk a.accept.length) = true) (fun ii _ => a.accept.length - (intOf ii).toNat)
      case atStart => exact ⟨0, Nat.zero_le _, rfl, rfl⟩
      case round =>
        obtain ⟨i, hi, rfl, hall⟩ := hrel
        have HA := Lib.hid hall
        clear hall
        by_cases hlt : i < a.accept.length
        · have hlt' : i < a.next.length := by have := HG3.out; omega
          obtain ⟨u, hu⟩ : ∃ u, us[i]? = some u := ⟨_, List.getElem?_eq_getElem (by have := HU.out; omega)⟩
          obtain ⟨b, o, rfl, -, hb1, hc⟩ := hx2 i u hu
          have hxi : a.next[i]? = some a.next[i] := List.getElem?_eq_getElem hlt'
          have hvi := hrows i u _ hu hxi
          generalize a.next[i] = row at hvi hxi
          have c0 := hc 0 _ rfl
          simp only [Nat.mul_one, Nat.add_zero] at c0
          obtain ⟨A3, c3, rfl, hl3, hm3, hx3⟩ := hvi
          unfold maxLen at hm3
          have HX := Lib.hid hxi
          clear hc hx2 hu hxi hrows
          by_cases g9 : row.length = 9
          · have g9' : ((row.length : Int) != 9) = false := by simp; omega
            have HG9 := Lib.hid g9
            have hl9 : 9 ≤ row.length := by omega
            clear g9
            go_wp2_with fail
            go_loop [5] (fun jj => ∃ j : Nat, j ≤ 9 ∧ jj = .int .i64 j ∧ (row.take j).all (fun t => wi t (-1) ((a.accept.length : Int) - 1)) = true) (fun jj => 9 - (intOf jj).toNat)
            case atStart => exact ⟨0, Nat.zero_le _, rfl, rfl⟩
            case round =>
              obtain ⟨j, hj, rfl, hall2⟩ := hrel
              have HB := Lib.hid hall2
              clear hall2
              by_cases hlt2 : j < 9
              · have hlt3 : j < row.length := by omega
                have hxj : row[j]? = some row[j] := List.getElem?_eq_getElem hlt3
                obtain ⟨b2, o2, rfl, -, hb2, hc2⟩ := hx3 j _ hxj
                generalize row[j] = t at hc2 hxj
                have d0 := hc2 0 _ rfl
                simp only [Nat.mul_one, Nat.add_zero] at d0
                have HXJ := Lib.hid hxj
                clear hc2 hx3 hxj
                by_cases g4 : wi t (-1) ((a.accept.length : Int) - 1) = true
                · go_wp2_with (go_at_call 67; refine (HW.out _ _ _ _).mono ?_; rintro e w' ⟨rfl, rfl⟩)
                  go_round
                  case rel => exact ⟨j + 1, by omega, by go_num, all_take_succ HXJ.out HB.out g4⟩
                  case measure => simp [intOf]; omega
                · simp only [Bool.not_eq_true] at g4
                  have hfin : auFits a = false := by
                    rw [HR.out]
                    refine all_false_of HX.out ?_
                    rw [rowOk, all_false_of HXJ.out g4]
                    rfl
                  have HF := Lib.hid hfin
                  clear hfin
                  go_wp2_with (go_at_call 67; refine (HW.out _ _ _ _).mono ?_; rintro e w' ⟨rfl, rfl⟩)
                  go_ret
                  exact ⟨by rw [HF.out]; rfl, hb0⟩
              · obtain rfl : j = 9 := by omega
                have hok : rowOk a.accept.length row = true := by
                  have h3 := HB.out
                  rw [show 9 = row.length from HG9.out.symm, List.take_length] at h3
                  rw [rowOk, h3, HG9.out]
                  rfl
                have HO := Lib.hid hok
                clear hok hx3
                go_wp2_with fail
                go_round
                case rel => exact ⟨i + 1, by omega, by go_num, all_take_succ HX.out HA.out HO.out⟩
                case measure => simp [intOf]; omega
          · have g9' : ((row.length : Int) != 9) = true := by simp; omega
            have hfin : auFits a = false := by
              rw [HR.out]
              refine all_false_of HX.out ?_
              rw [rowOk]
              simp [g9]
            have HF := Lib.hid hfin
            clear hfin g9
            go_wp2_with fail
            go_ret
            exact ⟨by rw [HF.out]; rfl, hb0⟩
        · obtain rfl : i = a.accept.length := by omega
          have hfin : auFits a = true := by rw [HR.out]; have := HA.out; rw [← HG3.out, List.take_length] at this; rw [HG3.out] at this; exact this
          have HF := Lib.hid hfin
          clear hfin hx2 hrows
          go_wp2_with fail
          go_ret
          exact ⟨by rw [HF.out]; rfl, hb0⟩
    · have g3' : ((a.next.length : Int) != (a.accept.length : Int)) = true := by simp; omega
      have hr : auFits a = false := by simp [auFits, g3]
      have HR := Lib.hid hr
      clear hr g3
      go_enter Try.func141, Try.ntmps141
      go_wp2_with (go_at_call 67; refine (HW.out _ _ _ _).mono ?_; rintro e w' ⟨rfl, rfl⟩)
      go_ret
      exact ⟨by rw [HR.out]; rfl, hb0⟩
  · simp only [Bool.not_eq_true] at g2
    have hr : auFits a = false := by simp [auFits, g2]
    have HR := Lib.hid hr
    clear hr
    go_enter Try.func141, Try.ntmps141
    go_wp2_with (go_at_call 67; refine (HW.out _ _ _ _).mono ?_; rintro e w' ⟨rfl, rfl⟩)
    go_ret
    exact ⟨by rw [HR.out]; rfl, hb0⟩

theorem specValidAutomaton (v : Value) (a : Au) (w : World) (hv : AuV 0 w.heap.size w v a) :
    Calls Try.prog 103 #[v] w fun e w' => e = .returned (.bool (auOk a)) ∧ Below w.heap.size w w' := by
  have hv0 := hv
  obtain ⟨ac, nx, rfl, ⟨A1, c1, rfl, hl1, hm1, -⟩, -⟩ := hv
  unfold maxLen at hm1
  have hb0 : Below w.heap.size w (w.alloc (.cells #[.int .i64 a.start, .slice A1 a.accept.length c1, nx] 29)) := (Below.refl _ _).alloc (Nat.le_refl _) _
  have hok := auFits_ok a
  by_cases g : a.accept.length ≤ 12
  · have e1 : decide ((a.accept.length : Int) ≤ 12) = true := by simp; omega
    rw [decide_eq_true g, Bool.true_and] at hok
    have HO := Lib.hid hok
    clear hok
    go_enter Try.func103, Try.ntmps103
    go_wp2_with fail
    refine (l11Fits_any _ a _ (hv0.keep hb0)).mono ?_
    rintro e w1 ⟨rfl, hb1⟩
    go_wp2_with fail
    go_ret
    exact ⟨by rw [← HO.out]; rfl, below_trans hb0 hb1⟩
  · have e1 : decide ((a.accept.length : Int) ≤ 12) = false := by simp; omega
    rw [decide_eq_false g, Bool.false_and] at hok
    have HO := Lib.hid hok
    clear hok
    go_enter Try.func103, Try.ntmps103
    go_wp2_with fail
    go_ret
    exact ⟨by rw [← HO.out]; rfl, hb0⟩

theorem l22State_any (v : Value) (a : Au) (s : Int) (w : World) (hv : AuV 0 w.heap.size w v a) :
    Calls Try.prog 57 #[v, .int .i64 s] w fun e w' => e = .returned (.bool (auOk a && wi s 0 ((a.accept.length : Int) - 1))) ∧ Below w.heap.size w w' := by
  have hv0 := hv
  obtain ⟨ac, nx, rfl, ⟨A1, c1, rfl, hl1, hm1, -⟩, -⟩ := hv
  unfold maxLen at hm1
  have hb0 : Below w.heap.size w (w.alloc (.cells #[.int .i64 a.start, .slice A1 a.accept.length c1, nx] 29)) := (Below.refl _ _).alloc (Nat.le_refl _) _
  by_cases g : auOk a = true
  · rw [g, Bool.true_and]
    go_enter Try.func57, Try.ntmps57
    go_wp2_with fail
    refine (specValidAutomaton _ a _ (hv0.keep hb0)).mono ?_
    rintro e w1 ⟨rfl, hb1⟩
    have b0 := (Blk.new w _ _ w.heap.size rfl).keep hb1
    have x1 : w1.cell? ⟨w.heap.size, 1, none⟩ = some (.slice A1 a.accept.length c1) := b0.cell 1
    clear b0
    go_wp2_with fail
    refine (l1In_any _ _ _ _).mono ?_
    rintro e w2 ⟨rfl, rfl⟩
    go_wp2_with fail
    go_ret
    exact ⟨rfl, below_trans hb0 hb1⟩
  · simp only [Bool.not_eq_true] at g
    rw [g, Bool.false_and]
    go_enter Try.func57, Try.ntmps57
    go_wp2_with fail
    refine (specValidAutomaton _ a _ (hv0.keep hb0)).mono ?_
    rintro e w1 ⟨rfl, hb1⟩
    go_wp2_with fail
    go_ret
    exact ⟨rfl, below_trans hb0 hb1⟩
end Go.Proofs.Ytgdgelkeflihpaa

/- The reference's functions on graphs: validity, edges, steps. -/
namespace Go.Proofs.Ytgdgelkeflihpaa
set_option linter.unusedVariables false
set_option linter.unusedSimpArgs false
open Go.ChangeShapes Go.WideShapes Go.ChangeAt Go.RowKit
attribute [local go_sem] ext_cell ext_frozen ext_lt ext_lt1 ext_lt2 ext_lt3 ltn2 ltn3 ltn13 lts1 lts2 lts3

set_option maxHeartbeats 1000000 in
theorem l3Edge_any (A : Option Addr) (n cc : Nat) (es : Value) (e : Ed) (w : World) (hn : n ≤ 9223372036854775807) :
    Calls Try.prog 146 #[.agg #[.slice A n cc, es], .agg #[.int .i64 e.1, .int .i64 e.2.1, .int .i64 e.2.2.1, .int .i64 e.2.2.2]] w fun en w' => en = .returned (.bool (edOk n e)) ∧ Below w.heap.size w w' := by
  obtain ⟨a, b, c, d⟩ := e
  have HW := Lib.hid l1In_any
  unfold edOk
  simp only
  have hb0 : Below w.heap.size w ((w.alloc (.cells #[.slice A n cc, es] 45)).alloc (.cells #[.int .i64 a, .int .i64 b, .int .i64 c, .int .i64 d] 147)) := ((Below.refl _ _).alloc (Nat.le_refl _) _).alloc (by simp) _
  cases g1 : wi a 1 99 with
  | false =>
    have HZ := Lib.hid g1
    go_enter Try.func146, Try.ntmps146
    go_wp2_with (go_at_call 67; refine (HW.out _ _ _ _).mono ?_; rintro e w' ⟨rfl, rfl⟩)
    go_ret
    exact ⟨rfl, hb0⟩
  | true =>
    cases g2 : wi b 0 ((n : Int) - 1) with
    | false =>
      go_enter Try.func146, Try.ntmps146
      go_wp2_with (go_at_call 67; refine (HW.out _ _ _ _).mono ?_; rintro e w' ⟨rfl, rfl⟩)
      go_ret
      exact ⟨rfl, hb0⟩
    | true =>
      cases g3 : wi c 0 ((n : Int) - 1) with
      | false =>
        go_enter Try.func146, Try.ntmps146
        go_wp2_with (go_at_call 67; refine (HW.out _ _ _ _).mono ?_; rintro e w' ⟨rfl, rfl⟩)
        go_ret
        exact ⟨rfl, hb0⟩
      | true =>
        go_enter Try.func146, Try.ntmps146
        go_wp2_with (go_at_call 67; refine (HW.out _ _ _ _).mono ?_; rintro e w' ⟨rfl, rfl⟩)
        go_ret
        exact ⟨rfl, hb0⟩

set_option maxHeartbeats 2000000 in
theorem specValidGraph (v : Value) (g : Gr) (w : World) (hv : GrV 0 w.heap.size w v g) :
    Calls Try.prog 112 #[v] w fun e w' => e = .returned (.bool (grOk g)) ∧ Below w.heap.size w w' := by
  obtain ⟨vs, es, rfl, ⟨A1, c1, rfl, hl1, hm1, hx1⟩, ⟨A2, c2, rfl, hl2, hm2, hx2⟩⟩ := hv
  unfold maxLen at hm1 hm2
  have hb0 : Below w.heap.size w (w.alloc (.cells #[.slice A1 g.vals.length c1, .slice A2 g.edges.length c2] 45)) := (Below.refl _ _).alloc (Nat.le_refl _) _
  have HW := Lib.hid l1In_any
  have HX1 := Lib.hid hx1
  have HX2 := Lib.hid hx2
  clear hx1 hx2
  go_enter Try.func112, Try.ntmps112
  go_wp2_with fail
  go_loop [3] (fun ii => ∃ i : Nat, i ≤ g.vals.length ∧ ii = .int .i64 i ∧ (g.vals.take i).all (fun v => wi v 0 2) = true) (fun ii => g.vals.length - (intOf ii).toNat)
  case atStart => exact ⟨0, Nat.zero_le _, rfl, rfl⟩
  case round =>
    obtain ⟨i, hi, rfl, hall⟩ := hrel
    have HA := Lib.hid hall
    clear hall
    by_cases hlt : i < g.vals.length
    · have hxi : g.vals[i]? = some g.vals[i] := List.getElem?_eq_getElem hlt
      obtain ⟨b, o, rfl, -, hb1, hc⟩ := HX1.out i _ hxi
      generalize g.vals[i] = x at hc hxi
      have c0 := hc 0 _ rfl
      simp only [Nat.mul_one, Nat.add_zero] at c0
      have HX := Lib.hid hxi
      clear hc hxi
      cases g4 : wi x 0 2 with
      | true =>
        have G4 := Lib.hid g4
        go_wp2_with (go_at_call 67; refine (HW.out _ _ _ _).mono ?_; rintro e w' ⟨rfl, rfl⟩)
        go_round
        case rel => exact ⟨i + 1, by omega, by go_num, all_take_succ HX.out HA.out G4.out⟩
        case measure => simp [intOf]; omega
      | false =>
        have hfin : grOk g = false := by
          rw [grOk, all_false_of HX.out g4]
          rfl
        have HF := Lib.hid hfin
        clear hfin
        go_wp2_with (go_at_call 67; refine (HW.out _ _ _ _).mono ?_; rintro e w' ⟨rfl, rfl⟩)
        go_ret
        exact ⟨by rw [HF.out]; rfl, hb0⟩
    · obtain rfl : i = g.vals.length := by omega
      have hallv : g.vals.all (fun v => wi v 0 2) = true := by have := HA.out; rwa [List.take_length] at this
      have HV := Lib.hid hallv
      clear hallv HA
      go_wp2_with fail
      go_loopw [4] (fun ii wr => ∃ (i : Nat) (u : World), i ≤ g.edges.length ∧ ii = .int .i64 i ∧ (List.range i).all (edAt g.vals.length g.edges) = true ∧ wr = ext (w.alloc (.cells #[.slice A1 g.vals.length c1, .slice A2 g.edges.length c2] 45)) u) (fun ii _ => g.edges.length - (intOf ii).toNat)
      case atStart => exact ⟨0, _, Nat.zero_le _, rfl, rfl, ext_self _⟩
      case round =>
        obtain ⟨i, u, hi, rfl, hall, rfl⟩ := hrel
        have HA := Lib.hid hall
        clear hall
        by_cases hlt : i < g.edges.length
        · have hxi : g.edges[i]? = some g.edges[i] := List.getElem?_eq_getElem hlt
          obtain ⟨b, o', rfl, -, hb1, hc⟩ := HX2.out i _ hxi
          generalize g.edges[i] = x at hc hxi
          have hb1' : b < w.heap.size + 1 := by omega
          have c0 := hc 0 _ rfl
          have c1' := hc 1 _ rfl
          have c2' := hc 2 _ rfl
          have c3 := hc 3 _ rfl
          simp only [Nat.add_zero] at c0
          have HX := Lib.hid hxi
          have hlen : g.vals.length ≤ 9223372036854775807 := by omega
          clear hc hxi
          have hgr : grOk g = ((List.range g.edges.length).all (edAt g.vals.length g.edges) && wi g.vals.length 1 5 && decide (g.edges.length ≤ 12)) := by
            rw [grOk, HV.out]; rfl
          have HGR := Lib.hid hgr
          clear hgr
          cases g4 : edOk g.vals.length x with
          | false =>
            have hfin : grOk g = false := by
              rw [HGR.out, range_all_false hlt (by rw [edAt, HX.out]; simp [g4])]
              rfl
            have HF := Lib.hid hfin
            clear hfin
            go_wp2_with fail
            refine wp_region_ext_lit (by kernel_rfl) (by kernel_rfl) ?_
            repeat (go_big_quiet_step ((go_at_call 146; exact Calls.ext_of (l3Edge_any A1 g.vals.length c1 _ x _ hlen))))
            refine wpQuiet_nil ?_
            intro _ hw'
            obtain ⟨u2, hw''⟩ := hw'
            subst hw''
            go_wp2_with fail
            go_ret
            exact ⟨by rw [HF.out]; rfl, below_trans hb0 (below_trans (ext_below _ _) (ext_below _ _))⟩
          | true =>
            have G4 := Lib.hid g4
            have hbx : ∀ u2, ∃ z, ext (ext (w.alloc (.cells #[.slice A1 g.vals.length c1, .slice (some ⟨b, o', none⟩) g.edges.length c2] 45)) u) u2 = ext (w.alloc (.cells #[.slice A1 g.vals.length c1, .slice (some ⟨b, o', none⟩) g.edges.length c2] 45)) z :=
              fun u2 => ext_of (below_trans (ext_below _ _) (ext_below _ _))
            by_cases hi0 : i = 0
            · subst hi0
              have hat : edAt g.vals.length g.edges 0 = true := by rw [edAt, HX.out]; simp [G4.out]
              have HAT := Lib.hid hat
              clear hat
              simp only [Nat.zero_mul, Nat.add_zero, Nat.zero_add] at c0 c1' c2' c3
              go_wp2_with fail
              refine wp_region_ext_lit (by kernel_rfl) (by kernel_rfl) ?_
              repeat (go_big_quiet_step ((go_at_call 146; exact Calls.ext_of (l3Edge_any A1 g.vals.length c1 _ x _ hlen))))
              refine wpQuiet_nil ?_
              intro _ hw'
              obtain ⟨u2, hw''⟩ := hw'
              subst hw''
              go_wp2_with fail
              go_roundw
              case rel =>
                obtain ⟨z, hz⟩ := hbx u2
                exact ⟨1, z, by omega, by go_num, range_all_succ HA.out HAT.out, hz⟩
              case measure => simp [intOf]; omega
            · have hi1 : 0 < i := by omega
              have hxj : g.edges[i - 1]? = some g.edges[i - 1] := List.getElem?_eq_getElem (by omega)
              obtain ⟨b9, o9, ho9, -, -, hcj⟩ := HX2.out (i - 1) _ hxj
              obtain ⟨rfl, rfl⟩ : b = b9 ∧ o' = o9 := by injection ho9 with h1; injection h1 with h1 h2; exact ⟨h1, h2⟩
              generalize g.edges[i - 1] = p at hcj hxj
              have hb1' : b < w.heap.size + 1 := by omega
              have p0 := hcj 0 _ rfl
              simp only [Nat.add_zero] at p0
              have HXJ := Lib.hid hxj
              have hi00 : ((i : Int) > 0) := by omega
              clear hcj hxj ho9
              by_cases hlt2 : p.1 < x.1
              · have hat : edAt g.vals.length g.edges i = true := by rw [edAt, HX.out]; simp [G4.out, HXJ.out, hlt2]
                have hge : decide (p.1 ≥ x.1) = false := by simp; omega
                have HAT := Lib.hid hat
                clear hat
                go_wp2_with fail
                have q1 : IntKind.i64.wrap ((i : Int) - 1) = (i : Int) - 1 := IntWalk.i64_in _ (by omega)
                have q2 : 0 ≤ (i : Int) - 1 := by omega
                have q3 : (i : Int) - 1 < (g.edges.length : Int) := by omega
                have q4 : ((i : Int) - 1).toNat = i - 1 := by omega
                refine wp_region_ext_lit (by kernel_rfl) (by kernel_rfl) ?_
                repeat (go_big_quiet_step ((go_at_call 146; exact Calls.ext_of (l3Edge_any A1 g.vals.length c1 _ x _ hlen))))
                refine wpQuiet_nil ?_
                intro _ hw'
                obtain ⟨u2, hw''⟩ := hw'
                subst hw''
                clear q1 q2 q3 q4
                go_wp2_with fail
                go_roundw
                case rel =>
                  obtain ⟨z, hz⟩ := hbx u2
                  exact ⟨i + 1, z, by omega, by go_num, range_all_succ HA.out HAT.out, hz⟩
                case measure => simp [intOf]; omega
              · have hfin : grOk g = false := by
                  rw [HGR.out, range_all_false hlt (by rw [edAt, HX.out]; simp [G4.out, HXJ.out, hi0]; omega)]
                  rfl
                have hge : decide (p.1 ≥ x.1) = true := by simp; omega
                have HF := Lib.hid hfin
                clear hfin
                go_wp2_with fail
                have q1 : IntKind.i64.wrap ((i : Int) - 1) = (i : Int) - 1 := IntWalk.i64_in _ (by omega)
                have q2 : 0 ≤ (i : Int) - 1 := by omega
                have q3 : (i : Int) - 1 < (g.edges.length : Int) := by omega
                have q4 : ((i : Int) - 1).toNat = i - 1 := by omega
                refine wp_region_ext_lit (by kernel_rfl) (by kernel_rfl) ?_
                repeat (go_big_quiet_step ((go_at_call 146; exact Calls.ext_of (l3Edge_any A1 g.vals.length c1 _ x _ hlen))))
                refine wpQuiet_nil ?_
                intro _ hw'
                obtain ⟨u2, hw''⟩ := hw'
                subst hw''
                clear q1 q2 q3 q4
                go_wp2_with fail
                go_ret
                exact ⟨by rw [HF.out]; rfl, below_trans hb0 (below_trans (ext_below _ _) (ext_below _ _))⟩
        · obtain rfl : i = g.edges.length := by omega
          have hgr : grOk g = (wi g.vals.length 1 5 && decide (g.edges.length ≤ 12)) := by
            rw [grOk, HV.out, HA.out]; rfl
          have HGR := Lib.hid hgr
          clear hgr HA HV
          cases g5 : wi g.vals.length 1 5 with
          | false =>
            rw [g5] at HGR
            go_wp2_with (go_at_call 67; refine (HW.out _ _ _ _).mono ?_; rintro e w' ⟨rfl, rfl⟩)
            go_ret
            exact ⟨by rw [HGR.out]; rfl, below_trans hb0 (ext_below _ _)⟩
          | true =>
            rw [g5] at HGR
            have HG5 := Lib.hid g5
            by_cases g6 : g.edges.length ≤ 12
            · have g6' : decide ((g.edges.length : Int) ≤ 12) = true := by simp; omega
              have hfin : grOk g = true := by rw [HGR.out]; simp [g6]
              have HF := Lib.hid hfin
              clear hfin HGR
              go_wp2_with (go_at_call 67; refine (HW.out _ _ _ _).mono ?_; rintro e w' ⟨rfl, rfl⟩)
              go_ret
              exact ⟨by rw [HF.out]; rfl, below_trans hb0 (ext_below _ _)⟩
            · have g6' : decide ((g.edges.length : Int) ≤ 12) = false := by simp; omega
              have hfin : grOk g = false := by rw [HGR.out]; simp [g6]
              have HF := Lib.hid hfin
              clear hfin HGR
              go_wp2_with (go_at_call 67; refine (HW.out _ _ _ _).mono ?_; rintro e w' ⟨rfl, rfl⟩)
              go_ret
              exact ⟨by rw [HF.out]; rfl, below_trans hb0 (ext_below _ _)⟩
end Go.Proofs.Ytgdgelkeflihpaa

/- Step in the laws' helpers: equal lists are told equal; marking, looking, copying, measuring. -/
namespace Go.Proofs.Ytgdgelkeflihpaa
set_option linter.unusedVariables false
set_option linter.unusedSimpArgs false
open Go.ChangeShapes Go.WideShapes Go.ChangeAt Go.RowKit
attribute [local go_sem] ext_cell ext_frozen ext_lt ext_lt1 ext_lt2 ext_lt3 ltn2 ltn3 ltn13 lts1 lts2 lts3

theorem eqStep_same (p : St) (w : World) :
    Calls Try.prog 121 #[.agg #[.int .i64 p.1, .bool p.2], .agg #[.int .i64 p.1, .bool p.2]] w fun e w' => e = .returned (.bool true) ∧ Below w.heap.size w w' := by
  obtain ⟨a0, a1⟩ := p
  go_enter Try.func121, Try.ntmps121
  go_wp2
  go_ret
  refine ⟨rfl, ?_⟩
  repeat (first | exact Below.refl _ _ | refine Below.alloc ?_ (by simp) _)
set_option maxHeartbeats 400000 in
theorem eqStepS_same (v1 v2 : Value) (xs : List St) (w : World) (hv1 : SlE w cSt 2 v1 xs) (hv2 : SlE w cSt 2 v2 xs) :
    Calls Try.prog 86 #[v1, v2] w fun e w' => e = .returned (.bool true) ∧ Below w.heap.size w w' := by
  obtain ⟨A1, c1, rfl, hl1, hm1, hx1⟩ := hv1
  obtain ⟨A2, c2, rfl, hl2, hm2, hx2⟩ := hv2
  unfold maxLen at hm1 hm2
  go_enter Try.func86, Try.ntmps86
  go_wp2
  go_loopw [5] (fun i wr => ∃ (k : Nat) (u : World), k ≤ xs.length ∧ i = .int .i64 k ∧ wr = ext w u) (fun i _ => xs.length - (intOf i).toNat)
  case atStart => exact ⟨0, w, Nat.zero_le _, rfl, ext_self w⟩
  case round =>
    obtain ⟨k, u, hk, rfl, rfl⟩ := hrel
    by_cases hlt : k < xs.length
    · obtain ⟨b1, o1, rfl, -, hb1, hc1⟩ := hx1 k xs[k] (List.getElem?_eq_getElem hlt)
      obtain ⟨b2, o2, rfl, -, hb2, hc2⟩ := hx2 k xs[k] (List.getElem?_eq_getElem hlt)
      generalize xs[k] = x at hc1 hc2
      have c10 := hc1 0 _ rfl
      have c11 := hc1 1 _ rfl
      have c20 := hc2 0 _ rfl
      have c21 := hc2 1 _ rfl
      simp only [Nat.add_zero] at c10 c20
      clear hc1 hc2 hx1 hx2
      go_wp2
      refine wp_region_ext_lit (by kernel_rfl) (by kernel_rfl) ?_
      repeat (go_big_quiet_step ((go_at_call 121; exact Calls.ext_of (eqStep_same x _))))
      refine wpQuiet_nil ?_
      intro _ hw'
      obtain ⟨u2, hw''⟩ := hw'
      subst hw''
      go_wp2
      go_roundw
      case rel =>
        obtain ⟨y, hy⟩ := ext_ext w u u2
        exact ⟨k + 1, y, by omega, by go_num, hy⟩
      case measure => simp [intOf]; omega
    · go_wp2
      go_ret
      exact ⟨rfl, ext_below _ _⟩
def mkStep (k : Int) (n : Nat) : List St := (List.range n).map fun (i : Nat) => (k + 2 * (i : Int), ((k + 2 * (i : Int) + 1) % 3 == 0))
theorem mkStep_len (k : Int) (n : Nat) : (mkStep k n).length = n := by simp [mkStep]
theorem mkStep_succ (k : Int) (i : Nat) : mkStep k (i + 1) = mkStep k i ++ [(k + 2 * (i : Int), ((k + 2 * (i : Int) + 1) % 3 == 0))] := by simp [mkStep, List.range_succ]
theorem mkStep_at (k : Int) {n i : Nat} (h : i < n) : (mkStep k n)[i]? = some (k + 2 * (i : Int), ((k + 2 * (i : Int) + 1) % 3 == 0)) := by simp [mkStep, h]
theorem flatStep_len (l : List St) : (l.flatMap cSt).length = l.length * 2 := by
  induction l with
  | nil => rfl
  | cons x l ih => simp only [List.flatMap_cons, List.length_append, cSt_len, ih, List.length_cons]; omega
theorem markStep_step (k : Int) (xs : List St) (i : Nat) (hi : i < xs.length) :
    ((((mkStep k i ++ xs.drop i).flatMap cSt).set (i * 2) (.int .i64 (k + 2 * (i : Int)))).set (i * 2 + 1) (.bool (((k + 2 * (i : Int) + 1) % 3 == 0)))) = (mkStep k (i + 1) ++ xs.drop (i + 1)).flatMap cSt := by
  rw [List.drop_eq_getElem_cons hi, mkStep_succ]
  have hl : ((mkStep k i).flatMap cSt).length = i * 2 := by rw [flatStep_len, mkStep_len]
  simp only [List.flatMap_append, List.flatMap_cons, List.flatMap_nil, List.append_nil, List.append_assoc]
  rw [List.set_append_right _ _ (by omega), List.set_append_right _ _ (by omega), hl]
  simp [cSt]
set_option maxHeartbeats 4000000 in
theorem markStepS_any (lo hi : Nat) (e : TypeId) (v : Value) (xs : List St) (k : Int) (w : World) (hv : Own lo hi w e cSt 2 v xs) (hk : 0 ≤ k) (hb : k + 2 * xs.length ≤ 4611686018427387904) :
    Calls Try.prog 88 #[v, .int .i64 k] w fun en w' => en = .returned (.int .i64 (k + 2 * xs.length)) ∧ Own lo hi w' e cSt 2 v (mkStep k xs.length) ∧ Only lo hi w w' := by
  obtain ⟨hr, hlt⟩ := hv
  have hr0 := hr
  obtain ⟨hl, hs⟩ := hr0
  rcases hs with ⟨rfl, hn⟩ | ⟨g, cap, cur, rfl, hg, hh, hnc, hcm, hsz, htk⟩
  · obtain rfl : xs = [] := List.eq_nil_of_length_eq_zero hn
    clear hl hr hn hlt
    go_enter Try.func88, Try.ntmps88
    go_wp2
    go_loopw [1, 5] (fun kk ii wr => kk = .int .i64 k ∧ ii = .int .i64 0 ∧ wr = w) (fun _ _ _ => 0)
    case atStart => exact ⟨rfl, rfl, rfl⟩
    case round =>
      obtain ⟨rfl, rfl, rfl⟩ := hrel
      go_wp2
      go_ret
      exact ⟨by simp, by simpa [mkStep] using Own.nil lo hi wr e cSt 2, Only.refl _ _ _⟩
  · have hglt := hlt g rfl
    unfold maxLen at hcm
    have HL := Lib.hid hl
    clear hh htk hsz hlt hl
    go_enter Try.func88, Try.ntmps88
    go_wp2
    go_loopw [1, 5] (fun kk ii wr => ∃ i : Nat, i ≤ xs.length ∧ kk = .int .i64 (k + 2 * i) ∧ ii = .int .i64 i ∧ wr.ownsRow lo e 2 (.slice (some ⟨g, 0, none⟩) xs.length cap) xs.length ((mkStep k i ++ xs.drop i).flatMap cSt) ∧ Only lo hi w wr) (fun _ ii _ => xs.length - (intOf ii).toNat)
    case atStart => exact ⟨0, Nat.zero_le _, by simp, rfl, by simpa [mkStep] using hr, Only.refl _ _ _⟩
    case round =>
      obtain ⟨i, hi', rfl, rfl, hrow, honly⟩ := hrel
      by_cases hlt : i < xs.length
      · have hrow0 := hrow
        have hc0 := World.ownsRow.cellAt hrow (i * 2) (by omega)
        have hf0 := World.ownsRow.frozenAt hrow (i * 2)
        have hc1 := World.ownsRow.cellAt hrow (i * 2 + 1) (by omega)
        have hf1 := World.ownsRow.frozenAt hrow (i * 2 + 1)
        have hst := (World.ownsRow.stored (World.ownsRow.stored hrow0 (i * 2) (.int .i64 (k + 2 * (i : Int)))).1 (i * 2 + 1) (.bool (((k + 2 * (i : Int) + 1) % 3 == 0)))).1
        rw [markStep_step k xs i hlt] at hst
        have HST := Lib.hid hst
        have hxi : (mkStep k i ++ xs.drop i)[i]? = some xs[i] := by
          rw [List.getElem?_append_right (by simp [mkStep_len]), mkStep_len]; simp [hlt]
        have hcx0 : ((mkStep k i ++ xs.drop i).flatMap cSt)[i * 2]? = some (.int .i64 xs[i].1) := flat_at cSt_len hxi 0 _ rfl
        rw [hcx0] at hc0
        have hcx1 : ((mkStep k i ++ xs.drop i).flatMap cSt)[i * 2 + 1]? = some (.bool xs[i].2) := flat_at cSt_len hxi 1 _ rfl
        rw [hcx1] at hc1
        clear hcx0 hcx1 hxi hst hrow hrow0 hr
        go_wp2
        go_roundw
        case rel => exact ⟨i + 1, by omega, by go_num, by go_num, HST.out, ((honly.setCell (.inl ⟨hg, hglt⟩) _).setCell (.inl ⟨hg, hglt⟩) _)⟩
        case measure => simp [intOf]; omega
      · obtain rfl : i = xs.length := by omega
        have hown : Own lo hi wr e cSt 2 (.slice (some ⟨g, 0, none⟩) xs.length cap) (mkStep k xs.length) := by
          refine ⟨?_, fun g' hg' => by cases hg'; exact hglt⟩
          rw [mkStep_len]
          simpa using hrow
        clear hrow hr
        go_wp2
        go_ret
        exact ⟨rfl, hown, honly⟩
set_option maxHeartbeats 4000000 in
theorem heldStepS_any (v : Value) (n : Nat) (k : Int) (w : World) (hv : SlE w cSt 2 v (mkStep k n)) (hk : 0 ≤ k) (hb : k + 2 * n ≤ 4611686018427387904) :
    Calls Try.prog 89 #[v, .int .i64 k] w fun en w' => en = .returned (.int .i64 (k + 2 * n)) ∧ Below w.heap.size w w' := by
  obtain ⟨A, c, rfl, hl, hm, hx⟩ := hv
  rw [mkStep_len] at hl
  simp only [mkStep_len]
  unfold maxLen at hm
  go_enter Try.func89, Try.ntmps89
  go_wp2
  go_loopw [1, 5] (fun kk ii wr => ∃ (i : Nat) (u : World), i ≤ n ∧ kk = .int .i64 (k + 2 * i) ∧ ii = .int .i64 i ∧ wr = ext w u) (fun _ ii _ => n - (intOf ii).toNat)
  case atStart => exact ⟨0, w, Nat.zero_le _, by simp, rfl, ext_self w⟩
  case round =>
    obtain ⟨i, u, hi', rfl, rfl, rfl⟩ := hrel
    by_cases hlt : i < n
    · obtain ⟨b, o, rfl, -, hb1, hc⟩ := hx i _ (mkStep_at k hlt)
      have c0 := hc 0 _ rfl
      have c1 := hc 1 _ rfl
      simp only [Nat.add_zero] at c0
      clear hc hx
      go_wp2
      go_roundw
      case rel => exact ⟨i + 1, u, by omega, by go_num, by go_num, rfl⟩
      case measure => simp [intOf]; omega
    · obtain rfl : i = n := by omega
      go_wp2
      go_ret
      exact ⟨rfl, ext_below _ _⟩
theorem toStep_any (p : St) (w : World) :
    Calls Try.prog 124 #[.agg #[.int .i64 p.1, .bool p.2]] w fun e w' => e = .returned (.agg #[.int .i64 p.1, .bool p.2]) ∧ Below w.heap.size w w' := by
  obtain ⟨a0, a1⟩ := p
  go_enter Try.func124, Try.ntmps124
  go_wp2
  refine bodyPost_ret (v := .agg #[.int .i64 a0, .bool a1]) (by simp [results, Try.results124, go_sem]) rfl ⟨rfl, ?_⟩
  repeat (first | exact Below.refl _ _ | refine Below.setCell ?_ (by simp <;> omega) _ | refine Below.alloc ?_ (by simp <;> omega) _)
theorem szStepS_any (A : Option Addr) (n c : Nat) (left : Int) (w : World) (hn : n ≤ maxLen) (h0 : 0 ≤ left) (h1 : left ≤ 1048576) :
    Calls Try.prog 90 #[.slice A n c, .int .i64 left] w fun e w' => e = .returned (.int .i64 (if left < n then -1 else left - n)) ∧ w' = w := by
  unfold maxLen at hn
  by_cases hlt : left < n
  · rw [if_pos hlt]
    go_enter Try.func90, Try.ntmps90
    go_wp2
    go_ret
    exact ⟨rfl, rfl⟩
  · rw [if_neg hlt]
    go_enter Try.func90, Try.ntmps90
    go_wp2
    go_ret
    exact ⟨rfl, rfl⟩
theorem elStep : ElemOk Try.prog 51 113 (.agg #[.int .i64 0, .bool false]) 2 16 := ⟨Try.underlying51, by kernel_rfl, rfl, by omega⟩
theorem toStep_step (xs : List St) (i : Nat) (x : St) (hx : xs[i]? = some x) :
    ((((xs.take i ++ List.replicate (xs.length - i) (0, false)).flatMap cSt).set (i * 2) (.int .i64 x.1)).set (i * 2 + 1) (.bool x.2)) = (xs.take (i + 1) ++ List.replicate (xs.length - (i + 1)) (0, false)).flatMap cSt := by
  have hi := (List.getElem?_eq_some_iff.1 hx).1
  rw [take_snoc hx, show xs.length - i = (xs.length - (i + 1)) + 1 by omega, List.replicate_succ]
  have hl : ((xs.take i).flatMap cSt).length = i * 2 := by rw [flatStep_len, List.length_take]; congr 1; omega
  simp only [List.flatMap_append, List.flatMap_cons, List.flatMap_nil, List.append_nil, List.append_assoc]
  rw [List.set_append_right _ _ (by omega), List.set_append_right _ _ (by omega), hl]
  simp [cSt]
set_option maxHeartbeats 1000000 in
theorem toStepS_any (v : Value) (xs : List St) (w : World) (hv : SlE w cSt 2 v xs) (hn : xs.length ≤ 1048576) :
    Calls Try.prog 92 #[v] w fun en w' => ∃ v', en = .returned v' ∧ Own w.heap.size w'.heap.size w' 113 cSt 2 v' xs ∧ Below w.heap.size w w' := by
  obtain ⟨A, c, rfl, hl, hm, hx⟩ := hv
  go_enter Try.func92, Try.ntmps92
  go_wp2_with (at_make; refine wpList_makeE (P := Try.prog) cSt (0, false) elStep rfl rfl rfl _ _ rfl w.heap.size xs.length _ (by rfl) (by rfl) rfl (by omega) (by unfold maxLen; omega) (Nat.le_refl _) ?_; intro w1 hrow1 hbel1)
  go_loopw [4] (fun ii wr => ∃ i : Nat, i ≤ xs.length ∧ ii = .int .i64 i ∧ wr.ownsRow w.heap.size 113 2 (.slice (some ⟨w.heap.size, 0, none⟩) xs.length xs.length) xs.length ((xs.take i ++ List.replicate (xs.length - i) (0, false)).flatMap cSt) ∧ Below w.heap.size w wr) (fun ii _ => xs.length - (intOf ii).toNat)
  case atStart => exact ⟨0, Nat.zero_le _, rfl, by simpa using hrow1, hbel1⟩
  case round =>
    obtain ⟨i, hi', rfl, hrow, hbel⟩ := hrel
    by_cases hlt : i < xs.length
    · have hxi : xs[i]? = some xs[i] := List.getElem?_eq_getElem hlt
      obtain ⟨b, o, rfl, -, hb1, hc⟩ := hx i _ hxi
      have hstep := toStep_step xs i _ hxi
      have hcur : (xs.take i ++ List.replicate (xs.length - i) (0, false))[i]? = some (0, false) := by
        rw [List.getElem?_append_right (by rw [List.length_take]; omega), List.getElem?_replicate, if_pos (by rw [List.length_take]; omega)]
      generalize xs[i] = x at hc hstep hxi
      have hs := hbel.size
      have c0 := (hbel.cell (p := ⟨b, o + i * 2 + 0, none⟩) hb1).trans (hc 0 _ rfl)
      have c1 := (hbel.cell (p := ⟨b, o + i * 2 + 1, none⟩) hb1).trans (hc 1 _ rfl)
      simp only [Nat.add_zero] at c0
      clear hc hx hxi hrow1 hbel1
      go_wp2_with fail
      refine (toStep_any x _).mono ?_; rintro e w2 ⟨rfl, hb2⟩
      have hrow2 := ownsRow_below hrow hb2 (Nat.le_refl _)
      have d0 := World.ownsRow.cellAt hrow2 (i * 2) (by omega)
      have f0 := World.ownsRow.frozenAt hrow2 (i * 2)
      have e0 := flat_at cSt_len hcur 0 _ rfl
      simp only [Nat.add_zero] at e0
      rw [e0] at d0
      clear e0
      have d1 := World.ownsRow.cellAt hrow2 (i * 2 + 1) (by omega)
      have f1 := World.ownsRow.frozenAt hrow2 (i * 2 + 1)
      have e1 := flat_at cSt_len hcur 1 _ rfl
      rw [e1] at d1
      clear e1
      have hst := (World.ownsRow.stored (World.ownsRow.stored hrow2 (i * 2) (.int .i64 x.1)).1 (i * 2 + 1) (.bool x.2)).1
      rw [hstep] at hst
      have HST := Lib.hid hst
      clear hst hstep hcur hrow hrow2
      go_wp2
      go_roundw
      case rel => exact ⟨i + 1, by omega, by go_num, HST.out, (((hbel.trans (hb2.mono hs)).setCell (Nat.le_refl _) _).setCell (Nat.le_refl _) _)⟩
      case measure => simp [intOf]; omega
    · obtain rfl : i = xs.length := by omega
      go_wp2
      go_ret
      exact ⟨_, rfl, Own.of_row hrow rfl (by simp), hbel⟩
end Go.Proofs.Ytgdgelkeflihpaa

/- The reference's product: l14Good, l14Closure, l14Letter, l14To, l4From. -/
namespace Go.Proofs.Ytgdgelkeflihpaa
set_option linter.unusedVariables false
set_option linter.unusedSimpArgs false
open Go.ChangeShapes Go.WideShapes Go.ChangeAt Go.RowKit
attribute [local go_sem] ext_cell ext_frozen ext_lt ext_lt1 ext_lt2 ext_lt3 ltn2 ltn3 ltn13 lts1 lts2 lts3

def goodB (g : Gr) (a : Au) (x s : Int) : Bool := grOk g && (auOk a && (wi x 0 ((g.vals.length : Int) - 1) && wi s 0 ((a.accept.length : Int) - 1)))
set_option maxHeartbeats 2000000 in
theorem l14Good_any (vg va : Value) (g : Gr) (a : Au) (x s : Int) (w : World) (hgv : GrV 0 w.heap.size w vg g) (hav : AuV 0 w.heap.size w va a) :
    Calls Try.prog 73 #[vg, va, .int .i64 x, .int .i64 s] w fun e w' => e = .returned (.bool (goodB g a x s)) ∧ Below w.heap.size w w' := by
  have hgv0 := hgv
  have hav0 := hav
  obtain ⟨A1, c1, A2, c2, rfl, hl1, hm1, hl2, hm2, -, -⟩ := hgv.form
  obtain ⟨ac, nx, rfl, hac, hnx⟩ := hav
  obtain ⟨A3, c3, rfl, hl3, hm3, -⟩ := SlE.form hac
  obtain ⟨A4, n4, c4, rfl⟩ := hnx.shape
  have hb0 : Below w.heap.size w ((w.alloc (.cells #[.slice A1 g.vals.length c1, .slice A2 g.edges.length c2] 45)).alloc (.cells #[.int .i64 a.start, .slice A3 a.accept.length c3, .slice A4 n4 c4] 29)) := ((Below.refl _ _).alloc (Nat.le_refl _) _).alloc (by simp) _
  have HGV := Lib.hid hgv0
  have HAV := Lib.hid hav0
  have HWI := Lib.hid l1In_any
  have HG := Lib.hid (show goodB g a x s = (grOk g && (auOk a && (wi x 0 ((g.vals.length : Int) - 1) && wi s 0 ((a.accept.length : Int) - 1)))) from rfl)
  clear hac hnx hgv0 hav0 hgv
  cases hgo : grOk g with
  | false =>
    have hfin : goodB g a x s = false := by rw [HG.out, hgo]; rfl
    have HF := Lib.hid hfin
    have hc := specValidGraph _ g _ (HGV.out.keep hb0)
    rw [hgo] at hc
    have HC := Lib.hid hc
    clear hgo hfin hc
    go_enter Try.func73, Try.ntmps73
    go_wp2_with fail
    refine HC.out.mono ?_
    rintro e w1 ⟨rfl, hb1⟩
    go_wp2_with fail
    go_ret
    exact ⟨by rw [HF.out]; rfl, below_trans hb0 hb1⟩
  | true =>
    have hc := specValidGraph _ g _ (HGV.out.keep hb0)
    rw [hgo] at hc
    have HC := Lib.hid hc
    have HGO := Lib.hid hgo
    clear hgo hc
    cases hao : auOk a with
    | false =>
      have hfin : goodB g a x s = false := by rw [HG.out, HGO.out, hao]; rfl
      have HF := Lib.hid hfin
      have HAO := Lib.hid hao
      clear hao hfin
      go_enter Try.func73, Try.ntmps73
      go_wp2_with fail
      refine HC.out.mono ?_
      rintro e w1 ⟨rfl, hb1⟩
      obtain ⟨u1, rfl⟩ := ext_of hb1
      go_wp2_with fail
      refine (specValidAutomaton _ a _ (HAV.out.keep (below_trans hb0 hb1))).mono ?_
      rw [HAO.out]
      rintro e w2 ⟨rfl, hb2⟩
      go_wp2_with fail
      go_ret
      exact ⟨by rw [HF.out]; rfl, below_trans (below_trans hb0 hb1) hb2⟩
    | true =>
      have HAO := Lib.hid hao
      clear hao
      go_enter Try.func73, Try.ntmps73
      go_wp2_with fail
      refine HC.out.mono ?_
      rintro e w1 ⟨rfl, hb1⟩
      obtain ⟨u1, rfl⟩ := ext_of hb1
      have hb3 := below_trans hb0 hb1
      clear hb1
      go_wp2_with fail
      refine (specValidAutomaton _ a _ (HAV.out.keep hb3)).mono ?_
      rw [HAO.out]
      rintro e w2 ⟨rfl, hb2⟩
      obtain ⟨u2, rfl⟩ := ext_of (below_trans (ext_below _ u1) hb2)
      have hb4 := below_trans hb3 hb2
      clear hb2 hb3
      have hfin : goodB g a x s = (wi x 0 ((g.vals.length : Int) - 1) && wi s 0 ((a.accept.length : Int) - 1)) := by rw [HG.out, HGO.out, HAO.out]; rfl
      have HF := Lib.hid hfin
      clear hfin
      cases h1 : wi x 0 ((g.vals.length : Int) - 1) with
      | false =>
        have H1 := Lib.hid h1
        go_wp2_with (go_at_call 67; refine (HWI.out _ _ _ _).mono ?_; rintro e w1 ⟨rfl, rfl⟩)
        go_ret
        exact ⟨by rw [HF.out, H1.out]; rfl, hb4⟩
      | true =>
        have H1 := Lib.hid h1
        go_wp2_with (go_at_call 67; refine (HWI.out _ _ _ _).mono ?_; rintro e w1 ⟨rfl, rfl⟩)
        go_ret
        exact ⟨by rw [HF.out, H1.out]; rfl, hb4⟩
theorem l14Letter_any (e : Ed) (b : Bool) (w : World) (h0 : 0 ≤ e.2.2.2) (h2 : e.2.2.2 ≤ 2) :
    Calls Try.prog 132 #[.agg #[.int .i64 e.1, .int .i64 e.2.1, .int .i64 e.2.2.1, .int .i64 e.2.2.2], .bool b] w fun en w' => en = .returned (.int .i64 (arcLetter b e)) ∧ Below w.heap.size w w' := by
  obtain ⟨a, f, t, l⟩ := e
  simp only at h0 h2 ⊢
  cases b
  all_goals
    go_enter Try.func132, Try.ntmps132
    go_wp2_with fail
    go_ret
    exact ⟨rfl, (Below.refl _ _).alloc (Nat.le_refl _) _⟩
theorem l14To_any (e : Ed) (b : Bool) (w : World) :
    Calls Try.prog 133 #[.agg #[.int .i64 e.1, .int .i64 e.2.1, .int .i64 e.2.2.1, .int .i64 e.2.2.2], .bool b] w fun en w' => en = .returned (.int .i64 (arcTo b e)) ∧ Below w.heap.size w w' := by
  obtain ⟨a, f, t, l⟩ := e
  cases b
  all_goals
    go_enter Try.func133, Try.ntmps133
    go_wp2_with fail
    go_ret
    exact ⟨rfl, (Below.refl _ _).alloc (Nat.le_refl _) _⟩
set_option maxHeartbeats 1000000 in
theorem l14Closure_any (v : Value) (a : Au) (s x : Nat) (w : World) (hv : AuV 0 w.heap.size w v a) (hok : auOk a = true) (hs : s < a.accept.length) (hx : x ≤ 2) :
    Calls Try.prog 131 #[v, .int .i64 (s : Int), .int .i64 (x : Int)] w fun e w' => e = .returned (.int .i64 (cls a x s : Int)) ∧ Below w.heap.size w w' := by
  obtain ⟨A1, c1, A2, c2, rfl, hl1, hm1, hl2, hm2, hC⟩ := hv.form hok
  clear hv
  have hn12 : a.accept.length ≤ 12 := (auOk_iff.1 hok).1.2
  have hb0 : Below w.heap.size w (w.alloc (.cells #[.int .i64 a.start, .slice A1 a.accept.length c1, .slice A2 a.accept.length c2] 29)) := (Below.refl _ _).alloc (Nat.le_refl _) _
  have HOK := Lib.hid hok
  have HC := Lib.hid hC
  obtain ⟨R, hR⟩ : ∃ R, R = cls a x s := ⟨_, rfl⟩
  rw [← hR]
  have HR := Lib.hid hR
  clear hR hok hC
  go_enter Try.func131, Try.ntmps131
  go_wp2_with fail
  go_loop [1, 7] (fun ss st => ∃ (f m : Nat) (s : Int), st = .int .i64 (m : Int) ∧ ss = .int .i64 s ∧ clsF a (6 + x) f s m = R ∧ f + (mem 12 m).length = 13 ∧ m < 2 ^ a.accept.length ∧ s < (a.accept.length : Int)) (fun _ st => 13 - (mem 12 (intOf st).toNat).length)
  case atStart => exact ⟨13, 0, s, rfl, rfl, HR.out.symm, by simp [mem], Nat.two_pow_pos _, by omega⟩
  case round =>
    obtain ⟨f, m, s, rfl, rfl, hcl, hf, hm, hs⟩ := hrel
    have hm2 := lt12 HOK.out hm
    have hml := mem_len 12 m
    have HCL := Lib.hid hcl
    have HFC := Lib.hid hf
    clear hcl hf
    by_cases h0 : 0 ≤ s
    · obtain ⟨s, rfl⟩ := Int.eq_ofNat_of_zero_le h0
      have hs12 : s < 12 := by omega
      have hsn : (s : Int) < (a.accept.length : Int) := hs
      obtain ⟨b2, o2, b3, o3, c3, hA2, hb2, d2, hl3, hm3, hb3, hc3⟩ := HC.out.row s (by omega)
      subst hA2
      have d3 := hc3 (6 + x) (by omega)
      have hx9 : (6 : Int) + (x : Int) < 9 := by omega
      have e1 := shl_bit (s := s) (by omega)
      have e2 := or_ins (m := m) (s := s) (by omega) (by omega)
      clear hc3
      cases hb : m.testBit s with
      | true =>
        have e3 := bit_on (by omega) (by omega) hb
        have hfin : m = R := by rw [← HCL.out]; exact (clsF_stop (.inr (by simpa using hb))).symm
        have HF := Lib.hid hfin
        clear hfin hb h0
        go_wp2_with fail
        go_ret
        exact ⟨by rw [HF.out]; rfl, hb0⟩
      | false =>
        have e3 := bit_off (by omega) (by omega) hb
        have HB := Lib.hid hb
        have hmv := mv_lt HOK.out s (6 + x)
        clear hb h0
        go_wp2_with fail
        go_round
        case rel =>
          have h1 := cnt_or (n := 12) (m := m) hs12 HB.out
          have h2 := HFC.out
          obtain ⟨f, rfl⟩ : ∃ f', f = f' + 1 := ⟨f - 1, by omega⟩
          exact ⟨f, ins m s, _, rfl, rfl, by rw [← HCL.out]; exact (clsF_go HB.out).symm, by omega, ins_lt hm (by omega), by omega⟩
        case measure =>
          have h1 := cnt_or (n := 12) (m := m) hs12 HB.out
          simp [intOf]; omega
    · have hfin : m = R := by rw [← HCL.out]; exact (clsF_stop (.inl (by omega))).symm
      have h0' : decide (s ≥ 0) = false := by simp; omega
      have HF := Lib.hid hfin
      clear hfin
      go_wp2_with fail
      go_ret
      exact ⟨by rw [HF.out]; rfl, hb0⟩
end Go.Proofs.Ytgdgelkeflihpaa

/- The reference's l4From: the steps from a node. -/
namespace Go.Proofs.Ytgdgelkeflihpaa
set_option linter.unusedVariables false
set_option linter.unusedSimpArgs false
open Go.ChangeShapes Go.WideShapes Go.ChangeAt Go.RowKit
attribute [local go_sem] ext_cell ext_frozen ext_lt ext_lt1 ext_lt2 ext_lt3 ltn2 ltn3 ltn13 lts1 lts2 lts3

def fromTo (g : Gr) (x : Int) (i : Nat) : List St := ((g.edges.take i).flatMap (arcE x)).map (·.1)
theorem fromTo_len (g : Gr) (x : Int) (i : Nat) : (fromTo g x i).length ≤ i * 2 := by
  unfold fromTo
  rw [List.length_map]
  have h1 := flat_len (arcE_len x) (g.edges.take i)
  rw [List.length_take] at h1
  have : min i g.edges.length * 2 ≤ i * 2 := Nat.mul_le_mul_right 2 (Nat.min_le_left _ _)
  omega
theorem fromTo_succ {g : Gr} {x : Int} {i : Nat} {e : Ed} (he : g.edges[i]? = some e) : fromTo g x (i + 1) = (fromTo g x i ++ if e.2.1 = x then [(e.1, false)] else []) ++ if e.2.2.1 = x then [(e.1, true)] else [] := by
  unfold fromTo
  rw [flat_take he, List.map_append, List.append_assoc]
  congr 1
  unfold arcE
  by_cases h1 : e.2.1 = x <;> by_cases h2 : e.2.2.1 = x <;> simp [h1, h2]
theorem elStF : ElemOk Try.prog 51 113 (.agg #[.int .i64 0, .bool false]) 2 16 := ⟨Try.underlying51, by kernel_rfl, rfl, by omega⟩
set_option maxHeartbeats 4000000 in
theorem l4From_any (vg : Value) (g : Gr) (x : Int) (w : World) (hgv : GrV 0 w.heap.size w vg g) (he12 : g.edges.length ≤ 12) :
    Calls Try.prog 96 #[vg, .int .i64 x] w fun e w' => ∃ v', e = .returned v' ∧ Own w.heap.size w'.heap.size w' 113 cSt 2 v' ((arcsOf g x).map (·.1)) ∧ Below w.heap.size w w' := by
  obtain ⟨A1, c1, A2, c2, rfl, hl1, hm1, hl2, hm2, -, hC2⟩ := hgv.form
  have HC2 := Lib.hid hC2
  have hb0 : Below w.heap.size w (w.alloc (.cells #[.slice A1 g.vals.length c1, .slice A2 g.edges.length c2] 45)) := (Below.refl _ _).alloc (Nat.le_refl _) _
  obtain ⟨R, hR⟩ : ∃ R, R = (arcsOf g x).map (·.1) := ⟨_, rfl⟩
  rw [← hR]
  have HR := Lib.hid hR
  clear hgv hC2 hR
  go_enter Try.func96, Try.ntmps96
  go_wp2_with fail
  obtain ⟨W0, hW0⟩ : ∃ W0, W0 = (w.alloc (.cells #[.slice A1 g.vals.length c1, .slice A2 g.edges.length c2] 45)) := ⟨_, rfl⟩
  rw [← hW0] at hb0 ⊢
  have x0 : W0.cell? ⟨w.heap.size, 1, none⟩ = some (.slice A2 g.edges.length c2) := by rw [hW0]; simp
  have hs0 : w.heap.size + 1 = W0.heap.size := by rw [hW0]; simp
  rw [hs0]
  have l0 : w.heap.size < W0.heap.size := by omega
  clear hW0 hs0
  go_loopw [5, 6] (fun out ii wr => ∃ i : Nat, i ≤ g.edges.length ∧ ii = .int .i64 (i : Int) ∧ wr.ownsRow W0.heap.size 113 2 out (fromTo g x i).length ((fromTo g x i).flatMap cSt) ∧ Below W0.heap.size W0 wr) (fun _ ii _ => g.edges.length - (intOf ii).toNat)
  case atStart => exact ⟨0, Nat.zero_le _, rfl, World.ownsRow_lit W0 #[] 0 (Nat.le_refl _) (by decide) rfl, (Below.refl _ _).alloc (Nat.le_refl _) _⟩
  case round =>
    obtain ⟨i, hi, rfl, hrow, hbel⟩ := hrel
    have HROW := Lib.hid hrow
    have hlen := fromTo_len g x i
    have x0 := kcell hbel x0
    have l1 := Nat.lt_of_lt_of_le l0 hbel.size
    have hsz := hbel.size
    clear hrow
    by_cases hlt : i < g.edges.length
    · have hei : g.edges[i]? = some g.edges[i] := List.getElem?_eq_getElem hlt
      generalize g.edges[i] = e at hei
      obtain ⟨b, o, rfl, hb, q0, q1, q2, -⟩ := HC2.out.ed hei
      have hbw := below_trans hb0 hbel
      have q0 := kcell hbw q0
      have q1 := kcell hbw q1
      have q2 := kcell hbw q2
      have hsu := fromTo_succ (x := x) hei
      have HSU := Lib.hid hsu
      obtain ⟨eid, ef, et, el⟩ := e
      simp only at q0 q1 q2 HSU
      clear hei hsu hbw
      by_cases h1 : ef = x <;> by_cases h2 : et = x
      · have k1 : (ef == x) = true := by simpa using h1
        have k2 : (et == x) = true := by simpa using h2
        rw [if_pos h1, if_pos h2] at HSU
        clear h1 h2
        have tok1 : True := trivial
        go_wp2_with (first | (at_builtin; have _t := tok1; (refine wpList_append1 cSt elStF rfl _ _ rfl W0.heap.size _ (fromTo g x i) (eid, false) _ 1 _ (by rfl) HROW.out (by rfl) rfl rfl rfl (cSt_one _) (by omega) (by omega) hsz ?_); intro v' w4 hrow' hb4 _ _; clear tok1; have HR4 := Lib.hid hrow'; clear hrow'; have q0 := (hb4.cell (p := ⟨b, o + i * 4, none⟩) (by simp only; omega)).trans q0; have q2 := (hb4.cell (p := ⟨b, o + i * 4 + 2, none⟩) (by simp only; omega)).trans q2; have x0 := (hb4.cell (p := ⟨w.heap.size, 1, none⟩) (by simp only; omega)).trans x0; have hsz4 := hb4.size) | (at_builtin; (refine wpList_append1 cSt elStF rfl _ _ rfl W0.heap.size _ (fromTo g x i ++ [(eid, false)]) (eid, true) _ 1 _ (by rfl) HR4.out (by rfl) rfl rfl rfl (cSt_one _) (by simp only [List.length_append, List.length_singleton]; omega) (by omega) (by omega) ?_); intro v' w5 hrow' hb5 _ _))
        go_roundw
        case rel => exact ⟨i + 1, by omega, by go_num, by rw [HSU.out]; exact hrow', (hbel.trans hb4).trans hb5⟩
        case measure => simp [intOf]; omega
      · have k1 : (ef == x) = true := by simpa using h1
        have k2 : (et == x) = false := by simpa using h2
        rw [if_pos h1, if_neg h2, List.append_nil] at HSU
        clear h1 h2
        go_wp2_with (at_builtin; (refine wpList_append1 cSt elStF rfl _ _ rfl W0.heap.size _ (fromTo g x i) (eid, false) _ 1 _ (by rfl) HROW.out (by rfl) rfl rfl rfl (cSt_one _) (by omega) (by omega) hsz ?_); intro v' w4 hrow' hb4 _ _; have HR4 := Lib.hid hrow'; clear hrow'; have q2 := (hb4.cell (p := ⟨b, o + i * 4 + 2, none⟩) (by simp only; omega)).trans q2; have x0 := (hb4.cell (p := ⟨w.heap.size, 1, none⟩) (by simp only; omega)).trans x0)
        go_roundw
        case rel => exact ⟨i + 1, by omega, by go_num, by rw [HSU.out]; exact HR4.out, hbel.trans hb4⟩
        case measure => simp [intOf]; omega
      · have k1 : (ef == x) = false := by simpa using h1
        have k2 : (et == x) = true := by simpa using h2
        rw [if_neg h1, if_pos h2, List.append_nil] at HSU
        clear h1 h2
        go_wp2_with (at_builtin; (refine wpList_append1 cSt elStF rfl _ _ rfl W0.heap.size _ (fromTo g x i) (eid, true) _ 1 _ (by rfl) HROW.out (by rfl) rfl rfl rfl (cSt_one _) (by omega) (by omega) hsz ?_); intro v' w4 hrow' hb4 _ _)
        go_roundw
        case rel => exact ⟨i + 1, by omega, by go_num, by rw [HSU.out]; exact hrow', hbel.trans hb4⟩
        case measure => simp [intOf]; omega
      · have k1 : (ef == x) = false := by simpa using h1
        have k2 : (et == x) = false := by simpa using h2
        rw [if_neg h1, if_neg h2, List.append_nil, List.append_nil] at HSU
        clear h1 h2
        go_wp2_with fail
        go_roundw
        case rel => exact ⟨i + 1, by omega, by go_num, by rw [HSU.out]; exact HROW.out, hbel⟩
        case measure => simp [intOf]; omega
    · obtain rfl : i = g.edges.length := by omega
      have hall : fromTo g x g.edges.length = R := by rw [HR.out, fromTo, List.take_length]; rfl
      have hown := Own.of_row (xs := fromTo g x g.edges.length) (ownsRow_mono HROW.out hb0.size) rfl rfl
      rw [hall] at hown
      have HO := Lib.hid hown
      clear hown hall
      go_wp2_with fail
      go_ret
      exact ⟨_, rfl, HO.out, below_trans hb0 hbel⟩
end Go.Proofs.Ytgdgelkeflihpaa

