/- Plain: breadth first search from some vertices. -/
import Derived.Test.YtmlfkledhnlkeaaDistM
namespace Go.Proofs.Ytmlfkledhnlkeaa
set_option linter.unusedVariables false
set_option linter.unusedSimpArgs false

def srcD (N : Nat) (fs : List Nat) : List Int := fs.foldl (fun D i => D.set i 0) (List.replicate N (-1))
theorem srcD_len (N : Nat) (fs : List Nat) : (srcD N fs).length = N := by
  have h : ∀ (fs : List Nat) (D : List Int), (fs.foldl (fun D i => D.set i 0) D).length = D.length := by
    intro fs
    induction fs with
    | nil => intro D; rfl
    | cons x fs ih => intro D; rw [List.foldl_cons, ih, List.length_set]
  rw [srcD, h, List.length_replicate]
theorem srcD_at {N : Nat} {fs : List Nat} {i : Nat} (hi : i < N) : (srcD N fs).getD i 0 = if i ∈ fs then 0 else -1 := by
  have h : ∀ (fs : List Nat) (D : List Int), i < D.length → (fs.foldl (fun D i => D.set i 0) D).getD i 0 = if i ∈ fs then 0 else D.getD i 0 := by
    intro fs
    induction fs with
    | nil => intro D _; simp
    | cons x fs ih =>
      intro D hD
      rw [List.foldl_cons, ih _ (by rw [List.length_set]; exact hD)]
      by_cases h1 : i ∈ fs
      · simp [h1]
      · rw [if_neg h1]
        by_cases h2 : i = x
        · subst h2
          rw [getD_set' hD, if_pos rfl]; simp
        · have hx : (D.set x 0).getD i 0 = D.getD i 0 := by
            simp only [List.getD, List.getElem?_set]
            rw [if_neg (fun e => h2 e.symm)]
          rw [hx, if_neg (by simp [h1, h2])]
  rw [srcD, h fs _ (by simpa using hi)]
  simp [List.getD, List.getElem?_replicate, hi]
theorem srcD_snoc (N : Nat) (fs : List Nat) (x : Nat) : srcD N (fs ++ [x]) = (srcD N fs).set x 0 := by simp [srcD, List.foldl_append]
theorem srcD_out {N : Nat} {fs : List Nat} {i : Nat} (hi : ¬ i < N) : (srcD N fs).getD i 0 = 0 := by
  simp only [List.getD]
  rw [List.getElem?_eq_none (by rw [srcD_len]; omega)]
  rfl
theorem negs_le (D : List Int) : negs D ≤ D.length := List.countP_le_length
theorem srcD_bfsI {N : Nat} {fs : List Nat} (hfs : ∀ i ∈ fs, i < N) : BfsI N (fs.length + N) (fs.length + N) (srcD N fs) fs := by
  have hv : ∀ i, (srcD N fs).getD i 0 = 0 ∨ (srcD N fs).getD i 0 = -1 := by
    intro i
    by_cases hi : i < N
    · rw [srcD_at hi]
      split
      · exact .inl rfl
      · exact .inr rfl
    · exact .inl (srcD_out hi)
  refine ⟨srcD_len N fs, fun h hh => ⟨hfs h hh, ?_⟩, ?_, fun h => ?_, fun h => ?_, Nat.le_refl _⟩
  · rw [srcD_at (hfs h hh), if_pos hh]; omega
  · have := negs_le (srcD N fs)
    rw [srcD_len] at this
    omega
  · rcases hv h with h1 | h1 <;> rw [h1] <;> omega
  · rcases hv h with h1 | h1 <;> rw [h1] <;> omega
def spreadR (N : Nat) (next : Nat → List Nat) (fs : List Nat) : List Int := bfs next (fs.length + N) (srcD N fs) fs
theorem spreadR_len (N : Nat) (next : Nat → List Nat) (fs : List Nat) : (spreadR N next fs).length = N := by rw [spreadR, bfs_len, srcD_len]

/-- from the goals, the rows turned round: the least number of steps to a goal -/
theorem spread_dist {N : Nat} {next : Nat → List Nat} {fs : List Nat} (hfs : ∀ i ∈ fs, i < N) (hn : ∀ i k, i < N → k ∈ next i → k < N) (i : Nat) (hi : i < N) :
    IsDist next (fun i => i ∈ fs) i ((spreadR N (turnL N next) fs).getD i 0) := by
  refine bfs_dist (prev := turnL N next) (fun i k _ _ h => (mem_turnL.1 h).2) (fun i k _ h => (mem_turnL.1 h).1) hn (fun i k hi _ h => mem_turnL.2 ⟨hi, h⟩) _ _ _ ?_ (srcD_bfsI hfs).fuel i hi
  refine ⟨srcD_len N fs, fun i hi h0 => ?_, fun i hi hg => ?_, fun k hk h0 hq => ?_, fun h r hq i hi => ?_, ?_, (srcD_bfsI hfs).queue, fun i hi => (srcD_bfsI hfs).low i⟩
  · rw [srcD_at hi] at h0 ⊢
    by_cases h : i ∈ fs
    · rw [if_pos h]; exact h
    · rw [if_neg h] at h0; omega
  · rw [srcD_at hi, if_pos hg]
  · rw [srcD_at hk, if_neg hq] at h0; omega
  · have hm : h ∈ fs := by rw [hq]; simp
    have e1 := srcD_at (fs := fs) (hfs h hm)
    rw [if_pos hm] at e1
    rw [srcD_at hi, e1]
    split <;> omega
  · have : ∀ l : List Nat, (∀ x ∈ l, x ∈ fs) → l.Pairwise (fun a b => (srcD N fs).getD a 0 ≤ (srcD N fs).getD b 0) := by
      intro l
      induction l with
      | nil => intro _; simp
      | cons x l ih =>
        intro hl
        refine List.pairwise_cons.2 ⟨fun y hy => ?_, ih fun z hz => hl z (List.mem_cons_of_mem _ hz)⟩
        have h1 := hl x (by simp)
        have h2 := hl y (List.mem_cons_of_mem _ hy)
        rw [srcD_at (hfs x h1), srcD_at (hfs y h2), if_pos h1, if_pos h2]
        omega
    exact this fs (fun _ h => h)
theorem relax_mid (d : Int) (k : Nat) (l : List Nat) (D : List Int) (q : List Nat) (h : D.getD k 0 < 0) : relax d (k :: l) D q = relax d l (D.set k d) (q ++ [k]) := by rw [relax, if_pos h]
theorem relax_old (d : Int) (k : Nat) (l : List Nat) (D : List Int) (q : List Nat) (h : ¬ D.getD k 0 < 0) : relax d (k :: l) D q = relax d l D q := by rw [relax, if_neg h]
end Go.Proofs.Ytmlfkledhnlkeaa
