/- Parts of the proof, joined into one text: SpreadM, NextM, GoalM, DistP, BackM, StepsM, GraphS, HelpStep, SetS, FromS, StepS. -/
import Derived.Test.YtallglnmeeahiaaPartLPOONNJA
import Derived.Test.YtallglnmeeahiaaPartOFPIKNKI
import Derived.Test.YtallglnmeeahiaaPartGEEOALPK
import Derived.Test.YtallglnmeeahiaaPartEHONMLDA
import Derived.Test.YtallglnmeeahiaaPartDHAIKELB
/- Plain: breadth first search from some vertices. -/
namespace Go.Proofs.Ytallglnmeeahiaa
set_option linter.unusedVariables false
set_option linter.unusedSimpArgs false

def srcD (N : Nat) (fs : List Nat) : List Int := fs.foldl (fun D i => D.set i 0) (List.replicate N (-1))
theorem srcD_len (N : Nat) (fs : List Nat) : (srcD N fs).length = N := by
  have h : ∀ (fs : List Nat) (D : List Int), (fs.foldl (fun D i => D.set i 0) D).length = D.length := by
    intro fs
    induction fs with
    | nil => intro D; rfl
    | cons x fs ih => intro D; rw [List.foldl_cons, ih, List.length_set]
  rw [srcD, h, List.length_replicate]
theorem srcD_at {N : Nat} {fs : List Nat} {i : Nat} (hi : i < N) : (srcD N fs).getD i 0 = if i ∈ fs then 0 else -1 := by
  have h : ∀ (fs : List Nat) (D : List Int), i < D.length → (fs.foldl (fun D i => D.set i 0) D).getD i 0 = if i ∈ fs then 0 else D.getD i 0 := by
    intro fs
    induction fs with
    | nil => intro D _; simp
    | cons x fs ih =>
      intro D hD
      rw [List.foldl_cons, ih _ (by rw [List.length_set]; exact hD)]
      by_cases h1 : i ∈ fs
      · simp [h1]
      · rw [if_neg h1]
        by_cases h2 : i = x
        · subst h2
          rw [getD_set' hD, if_pos rfl]; simp
        · have hx : (D.set x 0).getD i 0 = D.getD i 0 := by
            simp only [List.getD, List.getElem?_set]
            rw [if_neg (fun e => h2 e.symm)]
          rw [hx, if_neg (by simp [h1, h2])]
  rw [srcD, h fs _ (by simpa using hi)]
  simp [List.getD, List.getElem?_replicate, hi]
theorem srcD_snoc (N : Nat) (fs : List Nat) (x : Nat) : srcD N (fs ++ [x]) = (srcD N fs).set x 0 := by simp [srcD, List.foldl_append]
theorem srcD_out {N : Nat} {fs : List Nat} {i : Nat} (hi : ¬ i < N) : (srcD N fs).getD i 0 = 0 := by
  simp only [List.getD]
  rw [List.getElem?_eq_none (by rw [srcD_len]; omega)]
  rfl
theorem negs_le (D : List Int) : negs D ≤ D.length := List.countP_le_length
theorem srcD_bfsI {N : Nat} {fs : List Nat} (hfs : ∀ i ∈ fs, i < N) : BfsI N (fs.length + N) (fs.length + N) (srcD N fs) fs := by
  have hv : ∀ i, (srcD N fs).getD i 0 = 0 ∨ (srcD N fs).getD i 0 = -1 := by
    intro i
    by_cases hi : i < N
    · rw [srcD_at hi]
      split
      · exact .inl rfl
      · exact .inr rfl
    · exact .inl (srcD_out hi)
  refine ⟨srcD_len N fs, fun h hh => ⟨hfs h hh, ?_⟩, ?_, fun h => ?_, fun h => ?_, Nat.le_refl _⟩
  · rw [srcD_at (hfs h hh), if_pos hh]; omega
  · have := negs_le (srcD N fs)
    rw [srcD_len] at this
    omega
  · rcases hv h with h1 | h1 <;> rw [h1] <;> omega
  · rcases hv h with h1 | h1 <;> rw [h1] <;> omega
def spreadR (N : Nat) (next : Nat → List Nat) (fs : List Nat) : List Int := bfs next (fs.length + N) (srcD N fs) fs
theorem spreadR_len (N : Nat) (next : Nat → List Nat) (fs : List Nat) : (spreadR N next fs).length = N := by rw [spreadR, bfs_len, srcD_len]

/-- from the goals, the rows turned round: the least number of steps to a goal -/
theorem spread_dist {N : Nat} {next : Nat → List Nat} {fs : List Nat} (hfs : ∀ i ∈ fs, i < N) (hn : ∀ i k, i < N → k ∈ next i → k < N) (i : Nat) (hi : i < N) :
    IsDist next (fun i => i ∈ fs) i ((spreadR N (turnL N next) fs).getD i 0) := by
  refine bfs_dist (prev := turnL N next) (fun i k _ _ h => (mem_turnL.1 h).2) (fun i k _ h => (mem_turnL.1 h).1) hn (fun i k hi _ h => mem_turnL.2 ⟨hi, h⟩) _ _ _ ?_ (srcD_bfsI hfs).fuel i hi
  refine ⟨srcD_len N fs, fun i hi h0 => ?_, fun i hi hg => ?_, fun k hk h0 hq => ?_, fun h r hq i hi => ?_, ?_, (srcD_bfsI hfs).queue, fun i hi => (srcD_bfsI hfs).low i⟩
  · rw [srcD_at hi] at h0 ⊢
    by_cases h : i ∈ fs
    · rw [if_pos h]; exact h
    · rw [if_neg h] at h0; omega
  · rw [srcD_at hi, if_pos hg]
  · rw [srcD_at hk, if_neg hq] at h0; omega
  · have hm : h ∈ fs := by rw [hq]; simp
    have e1 := srcD_at (fs := fs) (hfs h hm)
    rw [if_pos hm] at e1
    rw [srcD_at hi, e1]
    split <;> omega
  · have : ∀ l : List Nat, (∀ x ∈ l, x ∈ fs) → l.Pairwise (fun a b => (srcD N fs).getD a 0 ≤ (srcD N fs).getD b 0) := by
      intro l
      induction l with
      | nil => intro _; simp
      | cons x l ih =>
        intro hl
        refine List.pairwise_cons.2 ⟨fun y hy => ?_, ih fun z hz => hl z (List.mem_cons_of_mem _ hz)⟩
        have h1 := hl x (by simp)
        have h2 := hl y (List.mem_cons_of_mem _ hy)
        rw [srcD_at (hfs x h1), srcD_at (hfs y h2), if_pos h1, if_pos h2]
        omega
    exact this fs (fun _ h => h)
theorem relax_mid (d : Int) (k : Nat) (l : List Nat) (D : List Int) (q : List Nat) (h : D.getD k 0 < 0) : relax d (k :: l) D q = relax d l (D.set k d) (q ++ [k]) := by rw [relax, if_pos h]
theorem relax_old (d : Int) (k : Nat) (l : List Nat) (D : List Int) (q : List Nat) (h : ¬ D.getD k 0 < 0) : relax d (k :: l) D q = relax d l D q := by rw [relax, if_neg h]
end Go.Proofs.Ytallglnmeeahiaa

/- Plain: the rows of vertices behind each vertex, filled vertex by vertex; the rows turned round. -/
namespace Go.Proofs.Ytallglnmeeahiaa
set_option linter.unusedVariables false
set_option linter.unusedSimpArgs false

/-- rows below i are whole, row i holds cur, the others are empty -/
def fillTo (N : Nat) (next : Nat → List Nat) (i : Nat) (cur : List Nat) : List (List Nat) := (List.range N).map fun m => if m < i then next m else if m = i then cur else []
theorem fill_at {N i m : Nat} {next : Nat → List Nat} {cur : List Nat} (h : m < N) : (fillTo N next i cur)[m]? = some (if m < i then next m else if m = i then cur else []) := by simp [fillTo, h]
theorem fill_cur {N i : Nat} {next : Nat → List Nat} {cur : List Nat} (h : i < N) : (fillTo N next i cur)[i]? = some cur := by rw [fill_at h, if_neg (by omega), if_pos rfl]
theorem fill_len (N i : Nat) (next : Nat → List Nat) (cur : List Nat) : (fillTo N next i cur).length = N := by simp [fillTo]
theorem fill_zero (N : Nat) (next : Nat → List Nat) : fillTo N next 0 [] = List.replicate N [] := by
  apply List.ext_getElem?
  intro x
  by_cases h : x < N
  · rw [fill_at h, List.getElem?_replicate, if_pos h]; simp
  · rw [List.getElem?_eq_none (by rw [fill_len]; omega), List.getElem?_eq_none (by rw [List.length_replicate]; omega)]
theorem fill_push {N i : Nat} {next : Nat → List Nat} {cur : List Nat} (v : List Nat) (h : i < N) : (fillTo N next i cur).set i v = fillTo N next i v := by
  apply List.ext_getElem?
  intro x
  rw [List.getElem?_set, fill_len]
  by_cases hx : x < N
  · by_cases e : i = x
    · subst e
      rw [if_pos rfl, if_pos h, fill_cur h]
    · rw [if_neg e, fill_at hx, fill_at hx]
      have : ¬ x = i := fun h => e h.symm
      simp [this]
  · rw [List.getElem?_eq_none (l := fillTo N next i v) (by rw [fill_len]; omega)]
    rw [if_neg (by omega), List.getElem?_eq_none (by rw [fill_len]; omega)]
theorem fill_next {N i : Nat} {next : Nat → List Nat} : fillTo N next i (next i) = fillTo N next (i + 1) [] := by
  unfold fillTo
  apply List.map_congr_left
  intro m _
  by_cases h1 : m < i
  · rw [if_pos h1, if_pos (by omega)]
  · by_cases h2 : m = i
    · subst h2
      rw [if_neg h1, if_pos rfl, if_pos (by omega)]
    · rw [if_neg h1, if_neg h2, if_neg (by omega)]
      split <;> rfl
theorem fill_all (N : Nat) (next : Nat → List Nat) : fillTo N next N [] = (List.range N).map next := by
  unfold fillTo
  apply List.map_congr_left
  intro m hm
  rw [if_pos (List.mem_range.1 hm)]
theorem nextI_at {g : Gr} {a : Au} {x s : Nat} (hs : s < a.accept.length) : nextI g a (x * a.accept.length + s) = nextV g a x s := by
  unfold nextI
  rw [Nat.add_comm, Nat.add_mul_div_right _ _ (by omega), Nat.div_eq_of_lt hs, Nat.add_mul_mod_self_right, Nat.mod_eq_of_lt hs, Nat.zero_add]
theorem vert_lt {n m x s : Nat} (hx : x < m) (hs : s < n) : x * n + s < m * n := by
  have := Nat.mul_le_mul_right n (show x + 1 ≤ m by omega)
  rw [Nat.succ_mul] at this
  omega

/-- the rows turned round, by the first i rows and j entries of row i -/
def turnTo (N : Nat) (next : Nat → List Nat) (i : Nat) (cur : List Nat) : List (List Nat) := (List.range N).map fun k => ((List.range i).flatMap fun m => (next m).filterMap fun x => if x = k then some m else none) ++ cur.filterMap fun x => if x = k then some i else none
theorem turn_at {N i k : Nat} {next : Nat → List Nat} {cur : List Nat} (h : k < N) : (turnTo N next i cur)[k]? = some (((List.range i).flatMap fun m => (next m).filterMap fun x => if x = k then some m else none) ++ cur.filterMap fun x => if x = k then some i else none) := by simp [turnTo, h]
theorem turn_len (N i : Nat) (next : Nat → List Nat) (cur : List Nat) : (turnTo N next i cur).length = N := by simp [turnTo]
theorem turn_zero (N : Nat) (next : Nat → List Nat) : turnTo N next 0 [] = List.replicate N [] := by
  apply List.ext_getElem?
  intro x
  by_cases h : x < N
  · rw [turn_at h, List.getElem?_replicate, if_pos h]; simp
  · rw [List.getElem?_eq_none (by rw [turn_len]; omega), List.getElem?_eq_none (by rw [List.length_replicate]; omega)]
theorem turn_push {N i k : Nat} {next : Nat → List Nat} {cur row : List Nat} (h : k < N) (hr : (turnTo N next i cur)[k]? = some row) : (turnTo N next i cur).set k (row ++ [i]) = turnTo N next i (cur ++ [k]) := by
  apply List.ext_getElem?
  intro x
  rw [List.getElem?_set, turn_len]
  by_cases hx : x < N
  · by_cases e : k = x
    · subst e
      rw [turn_at h] at hr
      injection hr with hr
      rw [if_pos rfl, if_pos h, turn_at h, ← hr, List.filterMap_append]
      simp
    · rw [if_neg e, turn_at hx, turn_at hx, List.filterMap_append]
      simp [e]
  · rw [List.getElem?_eq_none (l := turnTo N next i (cur ++ [k])) (by rw [turn_len]; omega)]
    rw [if_neg (by omega), List.getElem?_eq_none (by rw [turn_len]; omega)]
theorem turn_next {N i : Nat} {next : Nat → List Nat} : turnTo N next i (next i) = turnTo N next (i + 1) [] := by
  unfold turnTo
  apply List.map_congr_left
  intro k _
  rw [List.range_succ, List.flatMap_append]
  simp
theorem turn_all (N : Nat) (next : Nat → List Nat) : turnTo N next N [] = (List.range N).map (turnL N next) := by
  unfold turnTo turnL
  apply List.map_congr_left
  intro k _
  simp
end Go.Proofs.Ytallglnmeeahiaa

/- Plain: the vertices of a node that accept. -/
namespace Go.Proofs.Ytallglnmeeahiaa
set_option linter.unusedVariables false
set_option linter.unusedSimpArgs false
def goalsTo (g : Gr) (a : Au) (y i : Nat) : List Nat := ((List.range i).filter (accC a (valAt g y))).map fun s => y * a.accept.length + s
def goalsL (g : Gr) (a : Au) (y : Nat) : List Nat := goalsTo g a y a.accept.length
theorem goalsTo_yes {g : Gr} {a : Au} {y i : Nat} (h : accC a (valAt g y) i = true) : goalsTo g a y (i + 1) = goalsTo g a y i ++ [y * a.accept.length + i] := by
  unfold goalsTo
  rw [List.range_succ, List.filter_append, List.map_append]
  simp [h]
theorem goalsTo_no {g : Gr} {a : Au} {y i : Nat} (h : accC a (valAt g y) i = false) : goalsTo g a y (i + 1) = goalsTo g a y i := by
  unfold goalsTo
  rw [List.range_succ, List.filter_append, List.map_append]
  simp [h]
theorem goalsTo_len (g : Gr) (a : Au) (y i : Nat) : (goalsTo g a y i).length ≤ i := by
  unfold goalsTo
  rw [List.length_map]
  have := List.length_filter_le (accC a (valAt g y)) (List.range i)
  rw [List.length_range] at this
  exact this
theorem mem_goalsL {g : Gr} {a : Au} {y v : Nat} : v ∈ goalsL g a y ↔ ∃ s, s < a.accept.length ∧ accC a (valAt g y) s = true ∧ v = y * a.accept.length + s := by
  unfold goalsL goalsTo
  simp only [List.mem_map, List.mem_filter, List.mem_range]
  constructor
  · rintro ⟨s, ⟨h1, h2⟩, rfl⟩; exact ⟨s, h1, h2, rfl⟩
  · rintro ⟨s, h1, h2, rfl⟩; exact ⟨s, ⟨h1, h2⟩, rfl⟩
end Go.Proofs.Ytallglnmeeahiaa

/- Plain: the distances to a node, and the shortest length. -/
namespace Go.Proofs.Ytallglnmeeahiaa
set_option linter.unusedVariables false
set_option linter.unusedSimpArgs false
def distTo (g : Gr) (a : Au) (y : Int) : List Int :=
  if (wi y 0 ((g.vals.length : Int) - 1) && (grOk g && auOk a)) = true then spreadR (g.vals.length * a.accept.length) (turnL (g.vals.length * a.accept.length) (nextI g a)) (goalsL g a y.toNat) else []
def shortLen (g : Gr) (a : Au) (x y : Int) : Int :=
  if (wi x 0 ((g.vals.length : Int) - 1) && (wi y 0 ((g.vals.length : Int) - 1) && (grOk g && auOk a))) = true then (distTo g a y).getD (x.toNat * a.accept.length + a.start.toNat) 0 else -1
theorem distTo_len {g : Gr} {a : Au} {y : Int} (h : (wi y 0 ((g.vals.length : Int) - 1) && (grOk g && auOk a)) = true) : (distTo g a y).length = g.vals.length * a.accept.length := by rw [distTo, if_pos h, spreadR_len]
end Go.Proofs.Ytallglnmeeahiaa

/- Plain: the distances to a node by sweeps, as the reference finds them. -/
namespace Go.Proofs.Ytallglnmeeahiaa
set_option linter.unusedVariables false
set_option linter.unusedSimpArgs false
/-- the first list -/
def ini (g : Gr) (a : Au) (y z : Nat) : Int := if (z / a.accept.length == y && accC a (valAt g y) (z % a.accept.length)) = true then 0 else -1
def iniL (g : Gr) (a : Au) (y k : Nat) : List Int := (List.range k).map (ini g a y)
theorem iniL_len (g : Gr) (a : Au) (y k : Nat) : (iniL g a y k).length = k := by simp [iniL]
theorem iniL_snoc (g : Gr) (a : Au) (y k : Nat) : iniL g a y (k + 1) = iniL g a y k ++ [ini g a y k] := by simp [iniL, List.range_succ]
theorem iniL_at {g : Gr} {a : Au} {y k i : Nat} (h : i < k) : (iniL g a y k).getD i 0 = ini g a y i := by simp [iniL, List.getD, h]
theorem ini_goal {g : Gr} {a : Au} {y z : Nat} (hn : 0 < a.accept.length) : (z / a.accept.length == y && accC a (valAt g y) (z % a.accept.length)) = true ↔ z ∈ goalsL g a y := by
  rw [mem_goalsL, Bool.and_eq_true, beq_iff_eq]
  constructor
  · rintro ⟨rfl, h⟩
    exact ⟨z % a.accept.length, Nat.mod_lt _ hn, h, by rw [Nat.mul_comm]; exact (Nat.div_add_mod z _).symm⟩
  · rintro ⟨s, hs, hc, rfl⟩
    have h1 : (y * a.accept.length + s) / a.accept.length = y := by rw [Nat.mul_comm, Nat.mul_add_div hn, Nat.div_eq_of_lt hs]; rfl
    have h2 : (y * a.accept.length + s) % a.accept.length = s := by rw [Nat.mul_comm, Nat.mul_add_mod, Nat.mod_eq_of_lt hs]
    rw [h1, h2]
    exact ⟨rfl, hc⟩
theorem ini_SwO {g : Gr} {a : Au} {y N : Nat} (hn : 0 < a.accept.length) (next : Nat → List Nat) : SwO next (fun i => i ∈ goalsL g a y) N (iniL g a y N) 0 := by
  refine ⟨iniL_len .., fun i hi => ?_⟩
  rw [iniL_at hi, ini]
  by_cases h : (i / a.accept.length == y && accC a (valAt g y) (i % a.accept.length)) = true
  · rw [if_pos h]
    exact .inr ⟨Int.le_refl _, Int.le_refl _, .inr ⟨Int.le_refl _, (ini_goal hn).1 h, fun m hm => absurd hm (by simp)⟩⟩
  · rw [if_neg h]
    refine .inl ⟨rfl, fun m hm => ?_⟩
    obtain rfl : m = 0 := by omega
    exact fun hg => h ((ini_goal hn).2 hg)
/-- what the sweeps find is what the search found -/
theorem sweep_eq {g : Gr} {a : Au} {y : Nat} (hg : grOk g = true) (ha : auOk a = true) (hy : y < g.vals.length) {D : List Int} (hl : D.length = g.vals.length * a.accept.length)
    (h : ∀ i, i < g.vals.length * a.accept.length → IsDist (nextI g a) (fun i => i ∈ goalsL g a y) i (D.getD i 0)) : D = distTo g a (y : Int) := by
  have hd : (wi (y : Int) 0 ((g.vals.length : Int) - 1) && (grOk g && auOk a)) = true := by
    simp only [Bool.and_eq_true]
    exact ⟨by rw [wi_iff]; omega, hg, ha⟩
  have hN : ∀ i k, i < g.vals.length * a.accept.length → k ∈ nextI g a i → k < g.vals.length * a.accept.length := fun i k _ hk => nextV_lt (grOk_iff.1 hg) ha hk
  have hfs : ∀ i ∈ goalsL g a y, i < g.vals.length * a.accept.length := fun i hi => by
    obtain ⟨s, hs, _, rfl⟩ := mem_goalsL.1 hi
    calc y * a.accept.length + s < y * a.accept.length + a.accept.length := by omega
      _ = (y + 1) * a.accept.length := by rw [Nat.add_mul, Nat.one_mul]
      _ ≤ _ := Nat.mul_le_mul_right _ hy
  rw [distTo, if_pos hd, Int.toNat_natCast]
  refine List.ext_getElem (by rw [hl, spreadR_len]) fun i h1 h2 => ?_
  have hi : i < g.vals.length * a.accept.length := by omega
  have e := (h i hi).uniq (spread_dist hfs hN i hi)
  simpa [List.getD, h1, h2] using e
/-! ### The sweeps' rounds -/
section
variable {next : Nat → List Nat} {goal : Nat → Prop} {N : Nat} {D D0 : List Int} {e i k : Nat} {ch ch0 : Bool}
/-- within a sweep, at vertex i, with k of its next ones looked at -/
def KI (next : Nat → List Nat) (D0 : List Int) (ch0 : Bool) (e i k : Nat) (D : List Int) (ch : Bool) : Prop :=
  (D = D0 ∧ ch = ch0 ∧ ∀ v ∈ (next i).take k, D0.getD v 0 ≠ (e : Int)) ∨ (D = D0.set i ((e : Int) + 1) ∧ ch = true ∧ D0.getD i 0 < 0 ∧ ∃ v ∈ next i, D0.getD v 0 = (e : Int))
def CI (e N : Nat) (D : List Int) (ch : Bool) : Prop := e + negs D ≤ N ∧ (ch = true → e + negs D + 1 ≤ N)
/-- after sweeps -/
def SW (next : Nat → List Nat) (goal : Nat → Prop) (N e : Nat) (D : List Int) (ch : Bool) : Prop :=
  D.length = N ∧ (ch = true → SwO next goal N D e ∧ e + negs D ≤ N) ∧ (ch = false → ∀ i, i < N → IsDist next goal i (D.getD i 0))
theorem KI.start : KI next D0 ch0 e i 0 D0 ch0 := .inl ⟨rfl, rfl, by simp⟩
theorem KI.len (h : KI next D0 ch0 e i k D ch) : D.length = D0.length := by
  rcases h with ⟨rfl, _⟩ | ⟨rfl, _⟩ <;> simp
theorem KI.neg (h : KI next D0 ch0 e i k D ch) (hi : i < D0.length) (hn : D.getD i 0 < 0) : D = D0 ∧ ch = ch0 ∧ ∀ v ∈ (next i).take k, D0.getD v 0 ≠ (e : Int) := by
  rcases h with h | ⟨rfl, _⟩
  · exact h
  · rw [getD_set' hi, if_pos rfl] at hn
    omega
theorem KI.miss (h : KI next D0 ch0 e i k D ch) (hi : i < D0.length) (hn : D.getD i 0 < 0) {v : Nat} (hv : (next i)[k]? = some v) (hd : ¬ D.getD v 0 = (e : Int)) : KI next D0 ch0 e i (k + 1) D ch := by
  obtain ⟨rfl, rfl, h3⟩ := h.neg hi hn
  refine .inl ⟨rfl, rfl, fun x hx => ?_⟩
  rw [take_snoc hv, List.mem_append, List.mem_singleton] at hx
  rcases hx with hx | rfl
  · exact h3 x hx
  · exact hd
theorem KI.hit (h : KI next D0 ch0 e i k D ch) (hi : i < D0.length) (hn : D.getD i 0 < 0) {v : Nat} (hv : (next i)[k]? = some v) (hd : D.getD v 0 = (e : Int)) : KI next D0 ch0 e i (k + 1) (D.set i ((e : Int) + 1)) true := by
  obtain ⟨rfl, rfl, h3⟩ := h.neg hi hn
  exact .inr ⟨rfl, rfl, hn, v, List.mem_of_getElem? hv, hd⟩
theorem KI.fin (h : KI next D0 ch0 e i k D ch) (hs : SwI next goal N D0 e i ch0) (hi : i < N) (hk : (next i).length ≤ k ∨ ¬ D.getD i 0 < 0) (hnN : ∀ i k, i < N → k ∈ next i → k < N) : SwI next goal N D e (i + 1) ch := by
  rcases h with ⟨rfl, rfl, h3⟩ | ⟨rfl, rfl, h3, v, hv, hd⟩
  · refine hs.skip ?_ hnN
    rcases hk with hk | hk
    · exact .inr fun v hv => h3 v (by rw [List.take_of_length_le hk]; exact hv)
    · exact .inl hk
  · exact hs.put hi h3 hv hd hnN
theorem KI.cnt (h : KI next D0 ch0 e i k D ch) (hc : CI e N D0 ch0) (hi : i < D0.length) : CI e N D ch := by
  rcases h with ⟨rfl, rfl, _⟩ | ⟨rfl, rfl, h3, _⟩
  · exact hc
  · have h1 := negs_set (k := i) (d := (e : Int) + 1) hi h3 (by omega)
    have h2 := hc.1
    exact ⟨by omega, fun _ => by omega⟩
theorem SW.enter (h : SW next goal N e D true) : SwI next goal N D e 0 false ∧ CI e N D false := ⟨(h.2.1 rfl).1.enter, (h.2.1 rfl).2, by simp⟩
theorem SW.leave (h : SwI next goal N D e N ch) (hc : CI e N D ch) (hnN : ∀ i k, i < N → k ∈ next i → k < N) : SW next goal N (e + 1) D ch := by
  refine ⟨h.1, fun ht => ⟨h.leave, ?_⟩, fun hf => ?_⟩
  · have := hc.2 ht; omega
  · subst hf; exact h.stop hnN
theorem SW.ini (h : SwO next goal N D 0) : SW next goal N 0 D true := by
  refine ⟨h.1, fun _ => ⟨h, ?_⟩, by simp⟩
  have := List.countP_le_length (p := fun x : Int => decide (x < 0)) (l := D)
  rw [h.1] at this
  simpa [negs] using this
theorem CI.le (h : CI e N D ch) : e ≤ N := by have := h.1; omega
end
end Go.Proofs.Ytallglnmeeahiaa

/- Plain: the steps of the product from a vertex, as the reference lists them. -/
namespace Go.Proofs.Ytallglnmeeahiaa
set_option linter.unusedVariables false
set_option linter.unusedSimpArgs false
abbrev PS := St × Int × Int
def psA (g : Gr) (a : Au) (x s : Nat) (y : Arc) : List PS := (mem 12 (aft a (bit s) (valAt g x) y.2.1.toNat)).map fun (q : Nat) => (y.1, y.2.2, (q : Int))
def prodSteps (g : Gr) (a : Au) (x s : Nat) : List PS := (arcsOf g (x : Int)).flatMap (psA g a x s)
def psV (n : Nat) (p : PS) : Nat := p.2.1.toNat * n + p.2.2.toNat
theorem psV_next (g : Gr) (a : Au) (x s : Nat) : (prodSteps g a x s).map (psV a.accept.length) = nextV g a x s := by
  unfold prodSteps nextV
  rw [List.map_flatMap]
  congr 1
  funext y
  unfold psA nextA
  rw [List.map_map]
  apply List.map_congr_left
  intro q _
  simp [psV]
theorem psA_len (g : Gr) (a : Au) (x s : Nat) (y : Arc) : (psA g a x s y).length ≤ 12 := by rw [psA, List.length_map]; exact mem_len _ _
theorem prodSteps_len {g : Gr} (hg : GrOk g) (a : Au) (x s : Nat) : (prodSteps g a x s).length ≤ 288 := by
  have h2 := flat_len (psA_len g a x s) (arcsOf g (x : Int))
  have h3 := arcs_len hg (x : Int)
  unfold prodSteps
  omega
theorem prodSteps_range {g : Gr} {a : Au} (hg : GrOk g) (ha : auOk a = true) {x s : Nat} {p : PS} (h : p ∈ prodSteps g a x s) : (0 ≤ p.2.1 ∧ p.2.1 ≤ (g.vals.length : Int) - 1) ∧ 0 ≤ p.2.2 ∧ p.2.2 < (a.accept.length : Int) := by
  obtain ⟨y, hy, hp⟩ := List.mem_flatMap.1 h
  obtain ⟨q, hq, rfl⟩ := List.mem_map.1 hp
  have h1 := (arc_range hg hy).2
  have h2 := aft_lt ha (bit s) (valAt g x) y.2.1.toNat
  rw [mem12 ha h2, mem_mem] at hq
  exact ⟨h1, by simp only; omega, by simp only; omega⟩
def foldTo (a : Au) (l set q : Nat) : Nat := (mem q set).foldl (aft1 a l) 0
theorem foldTo_no {a : Au} {l set q : Nat} (h : set.testBit q = false) : foldTo a l set (q + 1) = foldTo a l set q := by rw [foldTo, mem_no h]; rfl
theorem foldTo_yes {a : Au} {l set q : Nat} (h : set.testBit q = true) : foldTo a l set (q + 1) = aft1 a l (foldTo a l set q) q := by rw [foldTo, mem_yes h, List.foldl_append]; rfl
theorem foldTo_lt {a : Au} (h : auOk a = true) (l set q : Nat) : foldTo a l set q < 2 ^ a.accept.length := foldl_inv (P := fun m => m < 2 ^ a.accept.length) (fun m x hm => aft1_lt h l m x hm) _ _ (Nat.two_pow_pos _)
theorem foldTo_all {a : Au} (h : auOk a = true) {v s l : Nat} (hs : s < a.accept.length) : foldTo a l (cls a v s) a.accept.length = aft a (bit s) v l := by
  rw [aft_one v l (show s < 12 by have := (auOk_iff.1 h).1.2; omega), mem12 h (cls_lt h v s hs)]; rfl
end Go.Proofs.Ytallglnmeeahiaa

/- The reference's functions on graphs: validity, edges, steps. -/
namespace Go.Proofs.Ytallglnmeeahiaa
set_option linter.unusedVariables false
set_option linter.unusedSimpArgs false
open Go.ChangeShapes Go.WideShapes Go.ChangeAt Go.RowKit
attribute [local go_sem] ext_cell ext_frozen ext_lt ext_lt1 ext_lt2 ext_lt3 ltn2 ltn3 ltn13 lts1 lts2 lts3

set_option maxHeartbeats 1000000 in
theorem l3Edge_any (A : Option Addr) (n cc : Nat) (es : Value) (e : Ed) (w : World) (hn : n ≤ 9223372036854775807) :
    Calls Try.prog 105 #[.agg #[.slice A n cc, es], .agg #[.int .i64 e.1, .int .i64 e.2.1, .int .i64 e.2.2.1, .int .i64 e.2.2.2]] w fun en w' => en = .returned (.bool (edOk n e)) ∧ Below w.heap.size w w' := by
  obtain ⟨a, b, c, d⟩ := e
  have HW := Lib.hid l1In_any
  unfold edOk
  simp only
  have hb0 : Below w.heap.size w ((w.alloc (.cells #[.slice A n cc, es] 38)).alloc (.cells #[.int .i64 a, .int .i64 b, .int .i64 c, .int .i64 d] 90)) := ((Below.refl _ _).alloc (Nat.le_refl _) _).alloc (by simp) _
  cases g1 : wi a 1 99 with
  | false =>
    have HZ := Lib.hid g1
    go_enter Try.func105, Try.ntmps105
    go_wp2_with (go_at_call 43; refine (HW.out _ _ _ _).mono ?_; rintro e w' ⟨rfl, rfl⟩)
    go_ret
    exact ⟨rfl, hb0⟩
  | true =>
    cases g2 : wi b 0 ((n : Int) - 1) with
    | false =>
      go_enter Try.func105, Try.ntmps105
      go_wp2_with (go_at_call 43; refine (HW.out _ _ _ _).mono ?_; rintro e w' ⟨rfl, rfl⟩)
      go_ret
      exact ⟨rfl, hb0⟩
    | true =>
      cases g3 : wi c 0 ((n : Int) - 1) with
      | false =>
        go_enter Try.func105, Try.ntmps105
        go_wp2_with (go_at_call 43; refine (HW.out _ _ _ _).mono ?_; rintro e w' ⟨rfl, rfl⟩)
        go_ret
        exact ⟨rfl, hb0⟩
      | true =>
        go_enter Try.func105, Try.ntmps105
        go_wp2_with (go_at_call 43; refine (HW.out _ _ _ _).mono ?_; rintro e w' ⟨rfl, rfl⟩)
        go_ret
        exact ⟨rfl, hb0⟩

set_option maxHeartbeats 2000000 in
theorem specValidGraph (v : Value) (g : Gr) (w : World) (hv : GrV 0 w.heap.size w v g) :
    Calls Try.prog 84 #[v] w fun e w' => e = .returned (.bool (grOk g)) ∧ Below w.heap.size w w' := by
  obtain ⟨vs, es, rfl, ⟨A1, c1, rfl, hl1, hm1, hx1⟩, ⟨A2, c2, rfl, hl2, hm2, hx2⟩⟩ := hv
  unfold maxLen at hm1 hm2
  have hb0 : Below w.heap.size w (w.alloc (.cells #[.slice A1 g.vals.length c1, .slice A2 g.edges.length c2] 38)) := (Below.refl _ _).alloc (Nat.le_refl _) _
  have HW := Lib.hid l1In_any
  have HX1 := Lib.hid hx1
  have HX2 := Lib.hid hx2
  clear hx1 hx2
  go_enter Try.func84, Try.ntmps84
  go_wp2_with fail
  go_loop [3] (fun ii => ∃ i : Nat, i ≤ g.vals.length ∧ ii = .int .i64 i ∧ (g.vals.take i).all (fun v => wi v 0 2) = true) (fun ii => g.vals.length - (intOf ii).toNat)
  case atStart => exact ⟨0, Nat.zero_le _, rfl, rfl⟩
  case round =>
    obtain ⟨i, hi, rfl, hall⟩ := hrel
    have HA := Lib.hid hall
    clear hall
    by_cases hlt : i < g.vals.length
    · have hxi : g.vals[i]? = some g.vals[i] := List.getElem?_eq_getElem hlt
      obtain ⟨b, o, rfl, -, hb1, hc⟩ := HX1.out i _ hxi
      generalize g.vals[i] = x at hc hxi
      have c0 := hc 0 _ rfl
      simp only [Nat.mul_one, Nat.add_zero] at c0
      have HX := Lib.hid hxi
      clear hc hxi
      cases g4 : wi x 0 2 with
      | true =>
        have G4 := Lib.hid g4
        go_wp2_with (go_at_call 43; refine (HW.out _ _ _ _).mono ?_; rintro e w' ⟨rfl, rfl⟩)
        go_round
        case rel => exact ⟨i + 1, by omega, by go_num, all_take_succ HX.out HA.out G4.out⟩
        case measure => simp [intOf]; omega
      | false =>
        have hfin : grOk g = false := by
          rw [grOk, all_false_of HX.out g4]
          rfl
        have HF := Lib.hid hfin
        clear hfin
        go_wp2_with (go_at_call 43; refine (HW.out _ _ _ _).mono ?_; rintro e w' ⟨rfl, rfl⟩)
        go_ret
        exact ⟨by rw [HF.out]; rfl, hb0⟩
    · obtain rfl : i = g.vals.length := by omega
      have hallv : g.vals.all (fun v => wi v 0 2) = true := by have := HA.out; rwa [List.take_length] at this
      have HV := Lib.hid hallv
      clear hallv HA
      go_wp2_with fail
      go_loopw [4] (fun ii wr => ∃ (i : Nat) (u : World), i ≤ g.edges.length ∧ ii = .int .i64 i ∧ (List.range i).all (edAt g.vals.length g.edges) = true ∧ wr = ext (w.alloc (.cells #[.slice A1 g.vals.length c1, .slice A2 g.edges.length c2] 38)) u) (fun ii _ => g.edges.length - (intOf ii).toNat)
      case atStart => exact ⟨0, _, Nat.zero_le _, rfl, rfl, ext_self _⟩
      case round =>
        obtain ⟨i, u, hi, rfl, hall, rfl⟩ := hrel
        have HA := Lib.hid hall
        clear hall
        by_cases hlt : i < g.edges.length
        · have hxi : g.edges[i]? = some g.edges[i] := List.getElem?_eq_getElem hlt
          obtain ⟨b, o', rfl, -, hb1, hc⟩ := HX2.out i _ hxi
          generalize g.edges[i] = x at hc hxi
          have hb1' : b < w.heap.size + 1 := by omega
          have c0 := hc 0 _ rfl
          have c1' := hc 1 _ rfl
          have c2' := hc 2 _ rfl
          have c3 := hc 3 _ rfl
          simp only [Nat.add_zero] at c0
          have HX := Lib.hid hxi
          have hlen : g.vals.length ≤ 9223372036854775807 := by omega
          clear hc hxi
          have hgr : grOk g = ((List.range g.edges.length).all (edAt g.vals.length g.edges) && wi g.vals.length 1 5 && decide (g.edges.length ≤ 12)) := by
            rw [grOk, HV.out]; rfl
          have HGR := Lib.hid hgr
          clear hgr
          cases g4 : edOk g.vals.length x with
          | false =>
            have hfin : grOk g = false := by
              rw [HGR.out, range_all_false hlt (by rw [edAt, HX.out]; simp [g4])]
              rfl
            have HF := Lib.hid hfin
            clear hfin
            go_wp2_with fail
            refine wp_region_ext_lit (by kernel_rfl) (by kernel_rfl) ?_
            repeat (go_big_quiet_step ((go_at_call 105; exact Calls.ext_of (l3Edge_any A1 g.vals.length c1 _ x _ hlen))))
            refine wpQuiet_nil ?_
            intro _ hw'
            obtain ⟨u2, hw''⟩ := hw'
            subst hw''
            go_wp2_with fail
            go_ret
            exact ⟨by rw [HF.out]; rfl, below_trans hb0 (below_trans (ext_below _ _) (ext_below _ _))⟩
          | true =>
            have G4 := Lib.hid g4
            have hbx : ∀ u2, ∃ z, ext (ext (w.alloc (.cells #[.slice A1 g.vals.length c1, .slice (some ⟨b, o', none⟩) g.edges.length c2] 38)) u) u2 = ext (w.alloc (.cells #[.slice A1 g.vals.length c1, .slice (some ⟨b, o', none⟩) g.edges.length c2] 38)) z :=
              fun u2 => ext_of (below_trans (ext_below _ _) (ext_below _ _))
            by_cases hi0 : i = 0
            · subst hi0
              have hat : edAt g.vals.length g.edges 0 = true := by rw [edAt, HX.out]; simp [G4.out]
              have HAT := Lib.hid hat
              clear hat
              simp only [Nat.zero_mul, Nat.add_zero, Nat.zero_add] at c0 c1' c2' c3
              go_wp2_with fail
              refine wp_region_ext_lit (by kernel_rfl) (by kernel_rfl) ?_
              repeat (go_big_quiet_step ((go_at_call 105; exact Calls.ext_of (l3Edge_any A1 g.vals.length c1 _ x _ hlen))))
              refine wpQuiet_nil ?_
              intro _ hw'
              obtain ⟨u2, hw''⟩ := hw'
              subst hw''
              go_wp2_with fail
              go_roundw
              case rel =>
                obtain ⟨z, hz⟩ := hbx u2
                exact ⟨1, z, by omega, by go_num, range_all_succ HA.out HAT.out, hz⟩
              case measure => simp [intOf]; omega
            · have hi1 : 0 < i := by omega
              have hxj : g.edges[i - 1]? = some g.edges[i - 1] := List.getElem?_eq_getElem (by omega)
              obtain ⟨b9, o9, ho9, -, -, hcj⟩ := HX2.out (i - 1) _ hxj
              obtain ⟨rfl, rfl⟩ : b = b9 ∧ o' = o9 := by injection ho9 with h1; injection h1 with h1 h2; exact ⟨h1, h2⟩
              generalize g.edges[i - 1] = p at hcj hxj
              have hb1' : b < w.heap.size + 1 := by omega
              have p0 := hcj 0 _ rfl
              simp only [Nat.add_zero] at p0
              have HXJ := Lib.hid hxj
              have hi00 : ((i : Int) > 0) := by omega
              clear hcj hxj ho9
              by_cases hlt2 : p.1 < x.1
              · have hat : edAt g.vals.length g.edges i = true := by rw [edAt, HX.out]; simp [G4.out, HXJ.out, hlt2]
                have hge : decide (p.1 ≥ x.1) = false := by simp; omega
                have HAT := Lib.hid hat
                clear hat
                go_wp2_with fail
                have q1 : IntKind.i64.wrap ((i : Int) - 1) = (i : Int) - 1 := IntWalk.i64_in _ (by omega)
                have q2 : 0 ≤ (i : Int) - 1 := by omega
                have q3 : (i : Int) - 1 < (g.edges.length : Int) := by omega
                have q4 : ((i : Int) - 1).toNat = i - 1 := by omega
                refine wp_region_ext_lit (by kernel_rfl) (by kernel_rfl) ?_
                repeat (go_big_quiet_step ((go_at_call 105; exact Calls.ext_of (l3Edge_any A1 g.vals.length c1 _ x _ hlen))))
                refine wpQuiet_nil ?_
                intro _ hw'
                obtain ⟨u2, hw''⟩ := hw'
                subst hw''
                clear q1 q2 q3 q4
                go_wp2_with fail
                go_roundw
                case rel =>
                  obtain ⟨z, hz⟩ := hbx u2
                  exact ⟨i + 1, z, by omega, by go_num, range_all_succ HA.out HAT.out, hz⟩
                case measure => simp [intOf]; omega
              · have hfin : grOk g = false := by
                  rw [HGR.out, range_all_false hlt (by rw [edAt, HX.out]; simp [G4.out, HXJ.out, hi0]; omega)]
                  rfl
                have hge : decide (p.1 ≥ x.1) = true := by simp; omega
                have HF := Lib.hid hfin
                clear hfin
                go_wp2_with fail
                have q1 : IntKind.i64.wrap ((i : Int) - 1) = (i : Int) - 1 := IntWalk.i64_in _ (by omega)
                have q2 : 0 ≤ (i : Int) - 1 := by omega
                have q3 : (i : Int) - 1 < (g.edges.length : Int) := by omega
                have q4 : ((i : Int) - 1).toNat = i - 1 := by omega
                refine wp_region_ext_lit (by kernel_rfl) (by kernel_rfl) ?_
                repeat (go_big_quiet_step ((go_at_call 105; exact Calls.ext_of (l3Edge_any A1 g.vals.length c1 _ x _ hlen))))
                refine wpQuiet_nil ?_
                intro _ hw'
                obtain ⟨u2, hw''⟩ := hw'
                subst hw''
                clear q1 q2 q3 q4
                go_wp2_with fail
                go_ret
                exact ⟨by rw [HF.out]; rfl, below_trans hb0 (below_trans (ext_below _ _) (ext_below _ _))⟩
        · obtain rfl : i = g.edges.length := by omega
          have hgr : grOk g = (wi g.vals.length 1 5 && decide (g.edges.length ≤ 12)) := by
            rw [grOk, HV.out, HA.out]; rfl
          have HGR := Lib.hid hgr
          clear hgr HA HV
          cases g5 : wi g.vals.length 1 5 with
          | false =>
            rw [g5] at HGR
            go_wp2_with (go_at_call 43; refine (HW.out _ _ _ _).mono ?_; rintro e w' ⟨rfl, rfl⟩)
            go_ret
            exact ⟨by rw [HGR.out]; rfl, below_trans hb0 (ext_below _ _)⟩
          | true =>
            rw [g5] at HGR
            have HG5 := Lib.hid g5
            by_cases g6 : g.edges.length ≤ 12
            · have g6' : decide ((g.edges.length : Int) ≤ 12) = true := by simp; omega
              have hfin : grOk g = true := by rw [HGR.out]; simp [g6]
              have HF := Lib.hid hfin
              clear hfin HGR
              go_wp2_with (go_at_call 43; refine (HW.out _ _ _ _).mono ?_; rintro e w' ⟨rfl, rfl⟩)
              go_ret
              exact ⟨by rw [HF.out]; rfl, below_trans hb0 (ext_below _ _)⟩
            · have g6' : decide ((g.edges.length : Int) ≤ 12) = false := by simp; omega
              have hfin : grOk g = false := by rw [HGR.out]; simp [g6]
              have HF := Lib.hid hfin
              clear hfin HGR
              go_wp2_with (go_at_call 43; refine (HW.out _ _ _ _).mono ?_; rintro e w' ⟨rfl, rfl⟩)
              go_ret
              exact ⟨by rw [HF.out]; rfl, below_trans hb0 (ext_below _ _)⟩
end Go.Proofs.Ytallglnmeeahiaa

/- Step in the laws' helpers: equal lists are told equal; marking, looking, copying, measuring. -/
namespace Go.Proofs.Ytallglnmeeahiaa
set_option linter.unusedVariables false
set_option linter.unusedSimpArgs false
open Go.ChangeShapes Go.WideShapes Go.ChangeAt Go.RowKit
attribute [local go_sem] ext_cell ext_frozen ext_lt ext_lt1 ext_lt2 ext_lt3 ltn2 ltn3 ltn13 lts1 lts2 lts3

def mkStep (k : Int) (n : Nat) : List St := (List.range n).map fun (i : Nat) => (k + 2 * (i : Int), ((k + 2 * (i : Int) + 1) % 3 == 0))
theorem mkStep_len (k : Int) (n : Nat) : (mkStep k n).length = n := by simp [mkStep]
theorem mkStep_succ (k : Int) (i : Nat) : mkStep k (i + 1) = mkStep k i ++ [(k + 2 * (i : Int), ((k + 2 * (i : Int) + 1) % 3 == 0))] := by simp [mkStep, List.range_succ]
theorem mkStep_at (k : Int) {n i : Nat} (h : i < n) : (mkStep k n)[i]? = some (k + 2 * (i : Int), ((k + 2 * (i : Int) + 1) % 3 == 0)) := by simp [mkStep, h]
theorem flatStep_len (l : List St) : (l.flatMap cSt).length = l.length * 2 := by
  induction l with
  | nil => rfl
  | cons x l ih => simp only [List.flatMap_cons, List.length_append, cSt_len, ih, List.length_cons]; omega
theorem markStep_step (k : Int) (xs : List St) (i : Nat) (hi : i < xs.length) :
    ((((mkStep k i ++ xs.drop i).flatMap cSt).set (i * 2) (.int .i64 (k + 2 * (i : Int)))).set (i * 2 + 1) (.bool (((k + 2 * (i : Int) + 1) % 3 == 0)))) = (mkStep k (i + 1) ++ xs.drop (i + 1)).flatMap cSt := by
  rw [List.drop_eq_getElem_cons hi, mkStep_succ]
  have hl : ((mkStep k i).flatMap cSt).length = i * 2 := by rw [flatStep_len, mkStep_len]
  simp only [List.flatMap_append, List.flatMap_cons, List.flatMap_nil, List.append_nil, List.append_assoc]
  rw [List.set_append_right _ _ (by omega), List.set_append_right _ _ (by omega), hl]
  simp [cSt]
theorem elStep : ElemOk Try.prog 39 54 (.agg #[.int .i64 0, .bool false]) 2 16 := ⟨Try.underlying39, by kernel_rfl, rfl, by omega⟩
end Go.Proofs.Ytallglnmeeahiaa

/- The reference's product: l14Good, l14Closure, l14Letter, l14To, l4From. -/
namespace Go.Proofs.Ytallglnmeeahiaa
set_option linter.unusedVariables false
set_option linter.unusedSimpArgs false
open Go.ChangeShapes Go.WideShapes Go.ChangeAt Go.RowKit
attribute [local go_sem] ext_cell ext_frozen ext_lt ext_lt1 ext_lt2 ext_lt3 ltn2 ltn3 ltn13 lts1 lts2 lts3

def goodB (g : Gr) (a : Au) (x s : Int) : Bool := grOk g && (auOk a && (wi x 0 ((g.vals.length : Int) - 1) && wi s 0 ((a.accept.length : Int) - 1)))
set_option maxHeartbeats 2000000 in
theorem l14Good_any (vg va : Value) (g : Gr) (a : Au) (x s : Int) (w : World) (hgv : GrV 0 w.heap.size w vg g) (hav : AuV 0 w.heap.size w va a) :
    Calls Try.prog 62 #[vg, va, .int .i64 x, .int .i64 s] w fun e w' => e = .returned (.bool (goodB g a x s)) ∧ Below w.heap.size w w' := by
  have hgv0 := hgv
  have hav0 := hav
  obtain ⟨A1, c1, A2, c2, rfl, hl1, hm1, hl2, hm2, -, -⟩ := hgv.form
  obtain ⟨ac, nx, rfl, hac, hnx⟩ := hav
  obtain ⟨A3, c3, rfl, hl3, hm3, -⟩ := SlE.form hac
  obtain ⟨A4, n4, c4, rfl⟩ := hnx.shape
  have hb0 : Below w.heap.size w ((w.alloc (.cells #[.slice A1 g.vals.length c1, .slice A2 g.edges.length c2] 38)).alloc (.cells #[.int .i64 a.start, .slice A3 a.accept.length c3, .slice A4 n4 c4] 27)) := ((Below.refl _ _).alloc (Nat.le_refl _) _).alloc (by simp) _
  have HGV := Lib.hid hgv0
  have HAV := Lib.hid hav0
  have HWI := Lib.hid l1In_any
  have HG := Lib.hid (show goodB g a x s = (grOk g && (auOk a && (wi x 0 ((g.vals.length : Int) - 1) && wi s 0 ((a.accept.length : Int) - 1)))) from rfl)
  clear hac hnx hgv0 hav0 hgv
  cases hgo : grOk g with
  | false =>
    have hfin : goodB g a x s = false := by rw [HG.out, hgo]; rfl
    have HF := Lib.hid hfin
    have hc := specValidGraph _ g _ (HGV.out.keep hb0)
    rw [hgo] at hc
    have HC := Lib.hid hc
    clear hgo hfin hc
    go_enter Try.func62, Try.ntmps62
    go_wp2_with fail
    refine HC.out.mono ?_
    rintro e w1 ⟨rfl, hb1⟩
    go_wp2_with fail
    go_ret
    exact ⟨by rw [HF.out]; rfl, below_trans hb0 hb1⟩
  | true =>
    have hc := specValidGraph _ g _ (HGV.out.keep hb0)
    rw [hgo] at hc
    have HC := Lib.hid hc
    have HGO := Lib.hid hgo
    clear hgo hc
    cases hao : auOk a with
    | false =>
      have hfin : goodB g a x s = false := by rw [HG.out, HGO.out, hao]; rfl
      have HF := Lib.hid hfin
      have HAO := Lib.hid hao
      clear hao hfin
      go_enter Try.func62, Try.ntmps62
      go_wp2_with fail
      refine HC.out.mono ?_
      rintro e w1 ⟨rfl, hb1⟩
      obtain ⟨u1, rfl⟩ := ext_of hb1
      go_wp2_with fail
      refine (specValidAutomaton _ a _ (HAV.out.keep (below_trans hb0 hb1))).mono ?_
      rw [HAO.out]
      rintro e w2 ⟨rfl, hb2⟩
      go_wp2_with fail
      go_ret
      exact ⟨by rw [HF.out]; rfl, below_trans (below_trans hb0 hb1) hb2⟩
    | true =>
      have HAO := Lib.hid hao
      clear hao
      go_enter Try.func62, Try.ntmps62
      go_wp2_with fail
      refine HC.out.mono ?_
      rintro e w1 ⟨rfl, hb1⟩
      obtain ⟨u1, rfl⟩ := ext_of hb1
      have hb3 := below_trans hb0 hb1
      clear hb1
      go_wp2_with fail
      refine (specValidAutomaton _ a _ (HAV.out.keep hb3)).mono ?_
      rw [HAO.out]
      rintro e w2 ⟨rfl, hb2⟩
      obtain ⟨u2, rfl⟩ := ext_of (below_trans (ext_below _ u1) hb2)
      have hb4 := below_trans hb3 hb2
      clear hb2 hb3
      have hfin : goodB g a x s = (wi x 0 ((g.vals.length : Int) - 1) && wi s 0 ((a.accept.length : Int) - 1)) := by rw [HG.out, HGO.out, HAO.out]; rfl
      have HF := Lib.hid hfin
      clear hfin
      cases h1 : wi x 0 ((g.vals.length : Int) - 1) with
      | false =>
        have H1 := Lib.hid h1
        go_wp2_with (go_at_call 43; refine (HWI.out _ _ _ _).mono ?_; rintro e w1 ⟨rfl, rfl⟩)
        go_ret
        exact ⟨by rw [HF.out, H1.out]; rfl, hb4⟩
      | true =>
        have H1 := Lib.hid h1
        go_wp2_with (go_at_call 43; refine (HWI.out _ _ _ _).mono ?_; rintro e w1 ⟨rfl, rfl⟩)
        go_ret
        exact ⟨by rw [HF.out, H1.out]; rfl, hb4⟩
theorem l14Letter_any (e : Ed) (b : Bool) (w : World) (h0 : 0 ≤ e.2.2.2) (h2 : e.2.2.2 ≤ 2) :
    Calls Try.prog 94 #[.agg #[.int .i64 e.1, .int .i64 e.2.1, .int .i64 e.2.2.1, .int .i64 e.2.2.2], .bool b] w fun en w' => en = .returned (.int .i64 (arcLetter b e)) ∧ Below w.heap.size w w' := by
  obtain ⟨a, f, t, l⟩ := e
  simp only at h0 h2 ⊢
  cases b
  all_goals
    go_enter Try.func94, Try.ntmps94
    go_wp2_with fail
    go_ret
    exact ⟨rfl, (Below.refl _ _).alloc (Nat.le_refl _) _⟩
theorem l14To_any (e : Ed) (b : Bool) (w : World) :
    Calls Try.prog 95 #[.agg #[.int .i64 e.1, .int .i64 e.2.1, .int .i64 e.2.2.1, .int .i64 e.2.2.2], .bool b] w fun en w' => en = .returned (.int .i64 (arcTo b e)) ∧ Below w.heap.size w w' := by
  obtain ⟨a, f, t, l⟩ := e
  cases b
  all_goals
    go_enter Try.func95, Try.ntmps95
    go_wp2_with fail
    go_ret
    exact ⟨rfl, (Below.refl _ _).alloc (Nat.le_refl _) _⟩
set_option maxHeartbeats 1000000 in
theorem l14Closure_any (v : Value) (a : Au) (s x : Nat) (w : World) (hv : AuV 0 w.heap.size w v a) (hok : auOk a = true) (hs : s < a.accept.length) (hx : x ≤ 2) :
    Calls Try.prog 92 #[v, .int .i64 (s : Int), .int .i64 (x : Int)] w fun e w' => e = .returned (.int .i64 (cls a x s : Int)) ∧ Below w.heap.size w w' := by
  obtain ⟨A1, c1, A2, c2, rfl, hl1, hm1, hl2, hm2, hC⟩ := hv.form hok
  clear hv
  have hn12 : a.accept.length ≤ 12 := (auOk_iff.1 hok).1.2
  have hb0 : Below w.heap.size w (w.alloc (.cells #[.int .i64 a.start, .slice A1 a.accept.length c1, .slice A2 a.accept.length c2] 27)) := (Below.refl _ _).alloc (Nat.le_refl _) _
  have HOK := Lib.hid hok
  have HC := Lib.hid hC
  obtain ⟨R, hR⟩ : ∃ R, R = cls a x s := ⟨_, rfl⟩
  rw [← hR]
  have HR := Lib.hid hR
  clear hR hok hC
  go_enter Try.func92, Try.ntmps92
  go_wp2_with fail
  go_loop [1, 7] (fun ss st => ∃ (f m : Nat) (s : Int), st = .int .i64 (m : Int) ∧ ss = .int .i64 s ∧ clsF a (6 + x) f s m = R ∧ f + (mem 12 m).length = 13 ∧ m < 2 ^ a.accept.length ∧ s < (a.accept.length : Int)) (fun _ st => 13 - (mem 12 (intOf st).toNat).length)
  case atStart => exact ⟨13, 0, s, rfl, rfl, HR.out.symm, by simp [mem], Nat.two_pow_pos _, by omega⟩
  case round =>
    obtain ⟨f, m, s, rfl, rfl, hcl, hf, hm, hs⟩ := hrel
    have hm2 := lt12 HOK.out hm
    have hml := mem_len 12 m
    have HCL := Lib.hid hcl
    have HFC := Lib.hid hf
    clear hcl hf
    by_cases h0 : 0 ≤ s
    · obtain ⟨s, rfl⟩ := Int.eq_ofNat_of_zero_le h0
      have hs12 : s < 12 := by omega
      have hsn : (s : Int) < (a.accept.length : Int) := hs
      obtain ⟨b2, o2, b3, o3, c3, hA2, hb2, d2, hl3, hm3, hb3, hc3⟩ := HC.out.row s (by omega)
      subst hA2
      have d3 := hc3 (6 + x) (by omega)
      have hx9 : (6 : Int) + (x : Int) < 9 := by omega
      have e1 := shl_bit (s := s) (by omega)
      have e2 := or_ins (m := m) (s := s) (by omega) (by omega)
      clear hc3
      cases hb : m.testBit s with
      | true =>
        have e3 := bit_on (by omega) (by omega) hb
        have hfin : m = R := by rw [← HCL.out]; exact (clsF_stop (.inr (by simpa using hb))).symm
        have HF := Lib.hid hfin
        clear hfin hb h0
        go_wp2_with fail
        go_ret
        exact ⟨by rw [HF.out]; rfl, hb0⟩
      | false =>
        have e3 := bit_off (by omega) (by omega) hb
        have HB := Lib.hid hb
        have hmv := mv_lt HOK.out s (6 + x)
        clear hb h0
        go_wp2_with fail
        go_round
        case rel =>
          have h1 := cnt_or (n := 12) (m := m) hs12 HB.out
          have h2 := HFC.out
          obtain ⟨f, rfl⟩ : ∃ f', f = f' + 1 := ⟨f - 1, by omega⟩
          exact ⟨f, ins m s, _, rfl, rfl, by rw [← HCL.out]; exact (clsF_go HB.out).symm, by omega, ins_lt hm (by omega), by omega⟩
        case measure =>
          have h1 := cnt_or (n := 12) (m := m) hs12 HB.out
          simp [intOf]; omega
    · have hfin : m = R := by rw [← HCL.out]; exact (clsF_stop (.inl (by omega))).symm
      have h0' : decide (s ≥ 0) = false := by simp; omega
      have HF := Lib.hid hfin
      clear hfin
      go_wp2_with fail
      go_ret
      exact ⟨by rw [HF.out]; rfl, hb0⟩
end Go.Proofs.Ytallglnmeeahiaa

/- The reference's l4From: the steps from a node. -/
namespace Go.Proofs.Ytallglnmeeahiaa
set_option linter.unusedVariables false
set_option linter.unusedSimpArgs false
open Go.ChangeShapes Go.WideShapes Go.ChangeAt Go.RowKit
attribute [local go_sem] ext_cell ext_frozen ext_lt ext_lt1 ext_lt2 ext_lt3 ltn2 ltn3 ltn13 lts1 lts2 lts3

def fromTo (g : Gr) (x : Int) (i : Nat) : List St := ((g.edges.take i).flatMap (arcE x)).map (·.1)
theorem fromTo_len (g : Gr) (x : Int) (i : Nat) : (fromTo g x i).length ≤ i * 2 := by
  unfold fromTo
  rw [List.length_map]
  have h1 := flat_len (arcE_len x) (g.edges.take i)
  rw [List.length_take] at h1
  have : min i g.edges.length * 2 ≤ i * 2 := Nat.mul_le_mul_right 2 (Nat.min_le_left _ _)
  omega
theorem fromTo_succ {g : Gr} {x : Int} {i : Nat} {e : Ed} (he : g.edges[i]? = some e) : fromTo g x (i + 1) = (fromTo g x i ++ if e.2.1 = x then [(e.1, false)] else []) ++ if e.2.2.1 = x then [(e.1, true)] else [] := by
  unfold fromTo
  rw [flat_take he, List.map_append, List.append_assoc]
  congr 1
  unfold arcE
  by_cases h1 : e.2.1 = x <;> by_cases h2 : e.2.2.1 = x <;> simp [h1, h2]
theorem elStF : ElemOk Try.prog 39 54 (.agg #[.int .i64 0, .bool false]) 2 16 := ⟨Try.underlying39, by kernel_rfl, rfl, by omega⟩
set_option maxHeartbeats 4000000 in
theorem l4From_any (vg : Value) (g : Gr) (x : Int) (w : World) (hgv : GrV 0 w.heap.size w vg g) (he12 : g.edges.length ≤ 12) :
    Calls Try.prog 93 #[vg, .int .i64 x] w fun e w' => ∃ v', e = .returned v' ∧ Own w.heap.size w'.heap.size w' 54 cSt 2 v' ((arcsOf g x).map (·.1)) ∧ Below w.heap.size w w' := by
  obtain ⟨A1, c1, A2, c2, rfl, hl1, hm1, hl2, hm2, -, hC2⟩ := hgv.form
  have HC2 := Lib.hid hC2
  have hb0 : Below w.heap.size w (w.alloc (.cells #[.slice A1 g.vals.length c1, .slice A2 g.edges.length c2] 38)) := (Below.refl _ _).alloc (Nat.le_refl _) _
  obtain ⟨R, hR⟩ : ∃ R, R = (arcsOf g x).map (·.1) := ⟨_, rfl⟩
  rw [← hR]
  have HR := Lib.hid hR
  clear hgv hC2 hR
  go_enter Try.func93, Try.ntmps93
  go_wp2_with fail
  obtain ⟨W0, hW0⟩ : ∃ W0, W0 = (w.alloc (.cells #[.slice A1 g.vals.length c1, .slice A2 g.edges.length c2] 38)) := ⟨_, rfl⟩
  rw [← hW0] at hb0 ⊢
  have x0 : W0.cell? ⟨w.heap.size, 1, none⟩ = some (.slice A2 g.edges.length c2) := by rw [hW0]; simp
  have hs0 : w.heap.size + 1 = W0.heap.size := by rw [hW0]; simp
  rw [hs0]
  have l0 : w.heap.size < W0.heap.size := by omega
  clear hW0 hs0
  go_loopw [5, 6] (fun out ii wr => ∃ i : Nat, i ≤ g.edges.length ∧ ii = .int .i64 (i : Int) ∧ wr.ownsRow W0.heap.size 54 2 out (fromTo g x i).length ((fromTo g x i).flatMap cSt) ∧ Below W0.heap.size W0 wr) (fun _ ii _ => g.edges.length - (intOf ii).toNat)
  case atStart => exact ⟨0, Nat.zero_le _, rfl, World.ownsRow_lit W0 #[] 0 (Nat.le_refl _) (by decide) rfl, (Below.refl _ _).alloc (Nat.le_refl _) _⟩
  case round =>
    obtain ⟨i, hi, rfl, hrow, hbel⟩ := hrel
    have HROW := Lib.hid hrow
    have hlen := fromTo_len g x i
    have x0 := kcell hbel x0
    have l1 := Nat.lt_of_lt_of_le l0 hbel.size
    have hsz := hbel.size
    clear hrow
    by_cases hlt : i < g.edges.length
    · have hei : g.edges[i]? = some g.edges[i] := List.getElem?_eq_getElem hlt
      generalize g.edges[i] = e at hei
      obtain ⟨b, o, rfl, hb, q0, q1, q2, -⟩ := HC2.out.ed hei
      have hbw := below_trans hb0 hbel
      have q0 := kcell hbw q0
      have q1 := kcell hbw q1
      have q2 := kcell hbw q2
      have hsu := fromTo_succ (x := x) hei
      have HSU := Lib.hid hsu
      obtain ⟨eid, ef, et, el⟩ := e
      simp only at q0 q1 q2 HSU
      clear hei hsu hbw
      by_cases h1 : ef = x <;> by_cases h2 : et = x
      · have k1 : (ef == x) = true := by simpa using h1
        have k2 : (et == x) = true := by simpa using h2
        rw [if_pos h1, if_pos h2] at HSU
        clear h1 h2
        have tok1 : True := trivial
        go_wp2_with (first | (at_builtin; have _t := tok1; (refine wpList_append1 cSt elStF rfl _ _ rfl W0.heap.size _ (fromTo g x i) (eid, false) _ 1 _ (by rfl) HROW.out (by rfl) rfl rfl rfl (cSt_one _) (by omega) (by omega) hsz ?_); intro v' w4 hrow' hb4 _ _; clear tok1; have HR4 := Lib.hid hrow'; clear hrow'; have q0 := (hb4.cell (p := ⟨b, o + i * 4, none⟩) (by simp only; omega)).trans q0; have q2 := (hb4.cell (p := ⟨b, o + i * 4 + 2, none⟩) (by simp only; omega)).trans q2; have x0 := (hb4.cell (p := ⟨w.heap.size, 1, none⟩) (by simp only; omega)).trans x0; have hsz4 := hb4.size) | (at_builtin; (refine wpList_append1 cSt elStF rfl _ _ rfl W0.heap.size _ (fromTo g x i ++ [(eid, false)]) (eid, true) _ 1 _ (by rfl) HR4.out (by rfl) rfl rfl rfl (cSt_one _) (by simp only [List.length_append, List.length_singleton]; omega) (by omega) (by omega) ?_); intro v' w5 hrow' hb5 _ _))
        go_roundw
        case rel => exact ⟨i + 1, by omega, by go_num, by rw [HSU.out]; exact hrow', (hbel.trans hb4).trans hb5⟩
        case measure => simp [intOf]; omega
      · have k1 : (ef == x) = true := by simpa using h1
        have k2 : (et == x) = false := by simpa using h2
        rw [if_pos h1, if_neg h2, List.append_nil] at HSU
        clear h1 h2
        go_wp2_with (at_builtin; (refine wpList_append1 cSt elStF rfl _ _ rfl W0.heap.size _ (fromTo g x i) (eid, false) _ 1 _ (by rfl) HROW.out (by rfl) rfl rfl rfl (cSt_one _) (by omega) (by omega) hsz ?_); intro v' w4 hrow' hb4 _ _; have HR4 := Lib.hid hrow'; clear hrow'; have q2 := (hb4.cell (p := ⟨b, o + i * 4 + 2, none⟩) (by simp only; omega)).trans q2; have x0 := (hb4.cell (p := ⟨w.heap.size, 1, none⟩) (by simp only; omega)).trans x0)
        go_roundw
        case rel => exact ⟨i + 1, by omega, by go_num, by rw [HSU.out]; exact HR4.out, hbel.trans hb4⟩
        case measure => simp [intOf]; omega
      · have k1 : (ef == x) = false := by simpa using h1
        have k2 : (et == x) = true := by simpa using h2
        rw [if_neg h1, if_pos h2, List.append_nil] at HSU
        clear h1 h2
        go_wp2_with (at_builtin; (refine wpList_append1 cSt elStF rfl _ _ rfl W0.heap.size _ (fromTo g x i) (eid, true) _ 1 _ (by rfl) HROW.out (by rfl) rfl rfl rfl (cSt_one _) (by omega) (by omega) hsz ?_); intro v' w4 hrow' hb4 _ _)
        go_roundw
        case rel => exact ⟨i + 1, by omega, by go_num, by rw [HSU.out]; exact hrow', hbel.trans hb4⟩
        case measure => simp [intOf]; omega
      · have k1 : (ef == x) = false := by simpa using h1
        have k2 : (et == x) = false := by simpa using h2
        rw [if_neg h1, if_neg h2, List.append_nil, List.append_nil] at HSU
        clear h1 h2
        go_wp2_with fail
        go_roundw
        case rel => exact ⟨i + 1, by omega, by go_num, by rw [HSU.out]; exact HROW.out, hbel⟩
        case measure => simp [intOf]; omega
    · obtain rfl : i = g.edges.length := by omega
      have hall : fromTo g x g.edges.length = R := by rw [HR.out, fromTo, List.take_length]; rfl
      have hown := Own.of_row (xs := fromTo g x g.edges.length) (ownsRow_mono HROW.out hb0.size) rfl rfl
      rw [hall] at hown
      have HO := Lib.hid hown
      clear hown hall
      go_wp2_with fail
      go_ret
      exact ⟨_, rfl, HO.out, below_trans hb0 hbel⟩
end Go.Proofs.Ytallglnmeeahiaa

/- The reference's steps of a graph: where they lead from and to, and whether they are allowed. -/
namespace Go.Proofs.Ytallglnmeeahiaa
set_option linter.unusedVariables false
set_option linter.unusedSimpArgs false
open Go.ChangeShapes Go.WideShapes Go.ChangeAt Go.RowKit
attribute [local go_sem] ext_cell ext_frozen ext_lt ext_lt1 ext_lt2 ext_lt3 ltn2 ltn3 ltn13 lts1 lts2 lts3

set_option maxHeartbeats 1000000 in
theorem specEdgeIndex (v : Value) (g : Gr) (id : Int) (w : World) (hv : GrV 0 w.heap.size w v g) :
    Calls Try.prog 85 #[v, .int .i64 id] w fun e w' => e = .returned (.int .i64 (edgeIdx g id)) ∧ Below w.heap.size w w' := by
  obtain ⟨vs, es, rfl, hvs, ⟨A2, c2, rfl, hl2, hm2, hx2⟩⟩ := hv
  obtain ⟨A1, n1, c1, rfl⟩ := hvs.shape
  unfold maxLen at hm2
  have hb0 : Below w.heap.size w (w.alloc (.cells #[.slice A1 n1 c1, .slice A2 g.edges.length c2] 38)) := (Below.refl _ _).alloc (Nat.le_refl _) _
  have HX := Lib.hid hx2
  clear hx2 hvs
  go_enter Try.func85, Try.ntmps85
  go_wp2_with fail
  go_loop [5] (fun ii => ∃ i : Nat, i ≤ g.edges.length ∧ ii = .int .i64 i ∧ ∀ e ∈ g.edges.take i, ¬ e.1 = id) (fun ii => g.edges.length - (intOf ii).toNat)
  case atStart => exact ⟨0, Nat.zero_le _, rfl, by simp⟩
  case round =>
    obtain ⟨i, hi, rfl, hno⟩ := hrel
    have HN := Lib.hid hno
    clear hno
    by_cases hlt : i < g.edges.length
    · have hxi : g.edges[i]? = some g.edges[i] := List.getElem?_eq_getElem hlt
      generalize g.edges[i] = x at hxi
      obtain ⟨b, o, rfl, -, hb, hc⟩ := HX.out i x hxi
      have c0 := hc 0 _ rfl
      simp only [Nat.add_zero] at c0
      have HXI := Lib.hid hxi
      clear hc hxi
      by_cases hp : x.1 = id
      · have hq : (x.1 == id) = true := by simp [hp]
        have hres : edgeIdx g id = i := edgeIdx_some HXI.out hp HN.out
        have HR := Lib.hid hres
        clear hres hp
        go_wp2_with fail
        go_ret
        exact ⟨by rw [HR.out]; rfl, hb0⟩
      · have hq : (x.1 == id) = false := by simp [hp]
        have HP := Lib.hid hp
        clear hp
        go_wp2_with fail
        go_round
        case rel =>
          refine ⟨i + 1, by omega, by go_num, fun y hy => ?_⟩
          rw [take_snoc HXI.out] at hy
          rcases List.mem_append.1 hy with hy | hy
          · exact HN.out y hy
          · obtain rfl : y = x := by simpa using hy
            exact HP.out
        case measure => simp [intOf]; omega
    · obtain rfl : i = g.edges.length := by omega
      have hres : edgeIdx g id = -1 := edgeIdx_none (fun x hx => HN.out x (by rw [List.take_length]; exact hx))
      have HR := Lib.hid hres
      clear hres
      go_wp2_with fail
      go_ret
      exact ⟨by rw [HR.out]; rfl, hb0⟩

set_option maxHeartbeats 1000000 in
theorem specStepEdge (v : Value) (g : Gr) (s : St) (w : World) (hv : GrV 0 w.heap.size w v g) :
    Calls Try.prog 66 #[v, .agg #[.int .i64 s.1, .bool s.2]] w fun en w' => ∃ e : Ed, en = .returned (.tuple #[.agg #[.int .i64 e.1, .int .i64 e.2.1, .int .i64 e.2.2.1, .int .i64 e.2.2.2], .bool (stepEd g s.1).isSome]) ∧ (∀ e', stepEd g s.1 = some e' → e' = e) ∧ Below w.heap.size w w' := by
  have hv0 := hv
  obtain ⟨vs, es, rfl, hvs, ⟨A2, c2, rfl, hl2, hm2, hx2⟩⟩ := hv
  obtain ⟨A1, n1, c1, rfl⟩ := hvs.shape
  obtain ⟨id, inv⟩ := s
  unfold maxLen at hm2
  have hb0 : Below w.heap.size w (((w.alloc (.cells #[.slice A1 n1 c1, .slice A2 g.edges.length c2] 38)).alloc (.cells #[.int .i64 id, .bool inv] 54)).alloc (.cells #[.int .i64 0, .int .i64 0, .int .i64 0, .int .i64 0] 90)) := (((Below.refl _ _).alloc (Nat.le_refl _) _).alloc (by simp) _).alloc (by simp <;> omega) _
  have hspec := edgeIdx_spec g id
  simp only
  go_enter Try.func66, Try.ntmps66
  have HS := Lib.hid hspec
  clear hspec
  go_wp2_with fail
  refine (specEdgeIndex _ g id _ (hv0.keep hb0)).mono ?_
  rintro e w1 ⟨rfl, hb1⟩
  have b0 := (((Blk.new w _ _ w.heap.size rfl).alloc _).alloc _).keep hb1
  have b2 := (Blk.new ((w.alloc _).alloc _) _ _ (w.heap.size + 1 + 1) (by simp)).keep hb1
  have hb2 := below_trans hb0 hb1
  clear hb0 hb1
  rcases HS.out with ⟨hi, hno⟩ | ⟨i, e, hi, hx, he, hno⟩
  · have hnone := stepEd_none hno
    have HN := Lib.hid hnone
    rw [hi]
    have x0 : w1.cell? ⟨w.heap.size, 0, none⟩ = some _ := b0.cell 0
    have x1 : w1.cell? ⟨w.heap.size, 1, none⟩ = some _ := b0.cell 1
    clear hnone hno hi HS
    go_wp2_with fail
    refine (specValidGraph _ g _ (hv0.keep hb2)).mono ?_
    rintro en w2 ⟨rfl, hb3⟩
    have b2 := b2.keep hb3
    have hb2 := below_trans hb2 hb3
    clear hb3 b0 x0 x1
    have z0 : w2.cell? ⟨w.heap.size + 1 + 1, 0, none⟩ = some _ := b2.cell 0
    have z1 : w2.cell? ⟨w.heap.size + 1 + 1, 1, none⟩ = some _ := b2.cell 1
    have z2 : w2.cell? ⟨w.heap.size + 1 + 1, 2, none⟩ = some _ := b2.cell 2
    have z3 : w2.cell? ⟨w.heap.size + 1 + 1, 3, none⟩ = some _ := b2.cell 3
    have f0 := b2.frozen 0
    have f1 := b2.frozen 1
    have f2 := b2.frozen 2
    have f3 := b2.frozen 3
    cases hg : grOk g with
    | false =>
      go_wp2_with fail
      refine bodyPost_ret (v := .tuple #[.agg #[.int .i64 0, .int .i64 0, .int .i64 0, .int .i64 0], .bool false]) (by simp [results, Try.results66, go_sem, z0, z1, z2, z3]) rfl ⟨(0, 0, 0, 0), by rw [HN.out]; rfl, (by rw [HN.out]; intro e' he'; cases he'), (((hb2.setCell (p := ⟨w.heap.size + 1 + 1, 0, none⟩) (by simp <;> omega) _).setCell (p := ⟨w.heap.size + 1 + 1, 1, none⟩) (by simp <;> omega) _).setCell (p := ⟨w.heap.size + 1 + 1, 2, none⟩) (by simp <;> omega) _).setCell (p := ⟨w.heap.size + 1 + 1, 3, none⟩) (by simp <;> omega) _⟩
    | true =>
      go_wp2_with fail
      refine bodyPost_ret (v := .tuple #[.agg #[.int .i64 0, .int .i64 0, .int .i64 0, .int .i64 0], .bool false]) (by simp [results, Try.results66, go_sem, z0, z1, z2, z3]) rfl ⟨(0, 0, 0, 0), by rw [HN.out]; rfl, (by rw [HN.out]; intro e' he'; cases he'), (((hb2.setCell (p := ⟨w.heap.size + 1 + 1, 0, none⟩) (by simp <;> omega) _).setCell (p := ⟨w.heap.size + 1 + 1, 1, none⟩) (by simp <;> omega) _).setCell (p := ⟨w.heap.size + 1 + 1, 2, none⟩) (by simp <;> omega) _).setCell (p := ⟨w.heap.size + 1 + 1, 3, none⟩) (by simp <;> omega) _⟩
  · rw [hi]
    have x0 : w1.cell? ⟨w.heap.size, 0, none⟩ = some _ := b0.cell 0
    have x1 : w1.cell? ⟨w.heap.size, 1, none⟩ = some _ := b0.cell 1
    have hil : i < g.edges.length := (List.getElem?_eq_some_iff.1 hx).1
    cases hg : grOk g with
    | false =>
      have hnone := stepEd_bad id hg
      have HN := Lib.hid hnone
      clear hnone hno HS hx
      go_wp2_with fail
      refine (specValidGraph _ g _ (hv0.keep hb2)).mono ?_
      rintro en w2 ⟨rfl, hb3⟩
      rw [hg]
      have b2 := b2.keep hb3
      have hb2 := below_trans hb2 hb3
      clear hb3 b0 x0 x1
      have z0 : w2.cell? ⟨w.heap.size + 1 + 1, 0, none⟩ = some _ := b2.cell 0
      have z1 : w2.cell? ⟨w.heap.size + 1 + 1, 1, none⟩ = some _ := b2.cell 1
      have z2 : w2.cell? ⟨w.heap.size + 1 + 1, 2, none⟩ = some _ := b2.cell 2
      have z3 : w2.cell? ⟨w.heap.size + 1 + 1, 3, none⟩ = some _ := b2.cell 3
      have f0 := b2.frozen 0
      have f1 := b2.frozen 1
      have f2 := b2.frozen 2
      have f3 := b2.frozen 3
      go_wp2_with fail
      refine bodyPost_ret (v := .tuple #[.agg #[.int .i64 0, .int .i64 0, .int .i64 0, .int .i64 0], .bool false]) (by simp [results, Try.results66, go_sem, z0, z1, z2, z3]) rfl ⟨(0, 0, 0, 0), by rw [HN.out]; rfl, (by rw [HN.out]; intro e' he'; cases he'), (((hb2.setCell (p := ⟨w.heap.size + 1 + 1, 0, none⟩) (by simp <;> omega) _).setCell (p := ⟨w.heap.size + 1 + 1, 1, none⟩) (by simp <;> omega) _).setCell (p := ⟨w.heap.size + 1 + 1, 2, none⟩) (by simp <;> omega) _).setCell (p := ⟨w.heap.size + 1 + 1, 3, none⟩) (by simp <;> omega) _⟩
    | true =>
      have hsome := stepEd_some hg hx he hno
      have HN := Lib.hid hsome
      obtain ⟨b9, o9, rfl, -, hb9, hc9⟩ := hx2 i e hx
      have d0 := hc9 0 _ rfl
      have d1 := hc9 1 _ rfl
      have d2 := hc9 2 _ rfl
      have d3 := hc9 3 _ rfl
      simp only [Nat.add_zero] at d0
      have HI := Lib.hid hi
      clear hsome hno HS hx hc9 hx2 he hi
      go_wp2_with fail
      refine (specValidGraph _ g _ (hv0.keep hb2)).mono ?_
      rintro en w2 ⟨rfl, hb3⟩
      rw [hg]
      have b2 := b2.keep hb3
      have b0 := b0.keep hb3
      have hb2 := below_trans hb2 hb3
      have d0 := (hb2.cell (p := ⟨b9, o9 + i * 4, none⟩) hb9).trans d0
      have d1 := (hb2.cell (p := ⟨b9, o9 + i * 4 + 1, none⟩) hb9).trans d1
      have d2 := (hb2.cell (p := ⟨b9, o9 + i * 4 + 2, none⟩) hb9).trans d2
      have d3 := (hb2.cell (p := ⟨b9, o9 + i * 4 + 3, none⟩) hb9).trans d3
      clear hb3 x0 x1
      have x1 : w2.cell? ⟨w.heap.size, 1, none⟩ = some _ := b0.cell 1
      have z0 : w2.cell? ⟨w.heap.size + 1 + 1, 0, none⟩ = some _ := b2.cell 0
      have z1 : w2.cell? ⟨w.heap.size + 1 + 1, 1, none⟩ = some _ := b2.cell 1
      have z2 : w2.cell? ⟨w.heap.size + 1 + 1, 2, none⟩ = some _ := b2.cell 2
      have z3 : w2.cell? ⟨w.heap.size + 1 + 1, 3, none⟩ = some _ := b2.cell 3
      have f0 := b2.frozen 0
      have f1 := b2.frozen 1
      have f2 := b2.frozen 2
      have f3 := b2.frozen 3
      go_wp2_with fail
      refine bodyPost_ret (v := .tuple #[.agg #[.int .i64 e.1, .int .i64 e.2.1, .int .i64 e.2.2.1, .int .i64 e.2.2.2], .bool true]) (by simp [results, Try.results66, go_sem, z0, z1, z2, z3]) rfl ⟨e, by rw [HN.out]; rfl, (by rw [HN.out]; intro e' he'; injection he' with he'; exact he'.symm), (((hb2.setCell (p := ⟨w.heap.size + 1 + 1, 0, none⟩) (by simp <;> omega) _).setCell (p := ⟨w.heap.size + 1 + 1, 1, none⟩) (by simp <;> omega) _).setCell (p := ⟨w.heap.size + 1 + 1, 2, none⟩) (by simp <;> omega) _).setCell (p := ⟨w.heap.size + 1 + 1, 3, none⟩) (by simp <;> omega) _⟩

set_option maxHeartbeats 1000000 in
theorem specStepFrom (v : Value) (g : Gr) (s : St) (w : World) (hv : GrV 0 w.heap.size w v g) :
    Calls Try.prog 125 #[v, .agg #[.int .i64 s.1, .bool s.2]] w fun en w' => en = .returned (.int .i64 (stepFrom g s)) ∧ Below w.heap.size w w' := by
  have hv0 := hv
  obtain ⟨A1, n1, c1, A2, n2, c2, rfl⟩ := hv.shape
  clear hv
  obtain ⟨id, inv⟩ := s
  have hb0 : Below w.heap.size w ((w.alloc (.cells #[.slice A1 n1 c1, .slice A2 n2 c2] 38)).alloc (.cells #[.int .i64 id, .bool inv] 54)) := ((Below.refl _ _).alloc (Nat.le_refl _) _).alloc (by simp) _
  have hc := fun W (hW : Below w.heap.size w W) => specStepEdge _ g (id, inv) W (hv0.keep hW)
  simp only at hc ⊢
  have HC := Lib.hid hc
  clear hc
  cases hs : stepEd g id with
  | none =>
    have hres : stepFrom g (id, inv) = -1 := by rw [stepFrom]; simp [hs]
    have HR := Lib.hid hres
    rw [hs] at HC
    clear hres hs
    go_enter Try.func125, Try.ntmps125
    go_wp2_with fail
    refine (HC.out _ hb0).mono ?_
    rintro en w1 ⟨e, rfl, -, hb1⟩
    have hb2 := below_trans hb0 hb1
    clear hb0 hb1
    go_wp2_with fail
    go_ret
    exact ⟨ret_int HR.out.symm, hb2.alloc hb2.size _⟩
  | some e =>
    rw [hs] at HC
    have hres : stepFrom g (id, inv) = if inv then e.2.2.1 else e.2.1 := by rw [stepFrom]; simp [hs]
    have HR := Lib.hid hres
    clear hres hs
    go_enter Try.func125, Try.ntmps125
    go_wp2_with fail
    refine (HC.out _ hb0).mono ?_
    rintro en w1 ⟨e1, rfl, he1, hb1⟩
    obtain rfl := he1 e rfl
    have b1 := (Blk.new (w.alloc _) _ _ (w.heap.size + 1) (by simp)).keep hb1
    have y1 : w1.cell? ⟨w.heap.size + 1, 1, none⟩ = some _ := b1.cell 1
    have hlt := b1.lt
    have hb2 := below_trans hb0 hb1
    clear hb0 hb1 he1 b1
    cases inv with
    | true =>
      go_wp2_with fail
      go_ret
      exact ⟨ret_int HR.out.symm, hb2.alloc hb2.size _⟩
    | false =>
      go_wp2_with fail
      go_ret
      exact ⟨ret_int HR.out.symm, hb2.alloc hb2.size _⟩

set_option maxHeartbeats 1000000 in
theorem specStepTo (v : Value) (g : Gr) (s : St) (w : World) (hv : GrV 0 w.heap.size w v g) :
    Calls Try.prog 102 #[v, .agg #[.int .i64 s.1, .bool s.2]] w fun en w' => en = .returned (.int .i64 (stepTo g s)) ∧ Below w.heap.size w w' := by
  have hv0 := hv
  obtain ⟨A1, n1, c1, A2, n2, c2, rfl⟩ := hv.shape
  clear hv
  obtain ⟨id, inv⟩ := s
  have hb0 : Below w.heap.size w ((w.alloc (.cells #[.slice A1 n1 c1, .slice A2 n2 c2] 38)).alloc (.cells #[.int .i64 id, .bool inv] 54)) := ((Below.refl _ _).alloc (Nat.le_refl _) _).alloc (by simp) _
  simp only
  go_enter Try.func102, Try.ntmps102
  go_wp2_with fail
  refine (specStepFrom _ g (id, !inv) _ (hv0.keep hb0)).mono ?_
  rintro en w1 ⟨rfl, hb1⟩
  go_wp2_with fail
  go_ret
  exact ⟨rfl, below_trans hb0 hb1⟩


theorem getDS_of {xs : List Int} {i : Nat} {x : Int} (h : xs[i]? = some x) : xs.getD i 0 = x := by rw [List.getD_eq_getElem?_getD, h]; rfl

end Go.Proofs.Ytallglnmeeahiaa

