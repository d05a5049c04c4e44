/- Parts of the proof, joined into one text: ProdM, WalkM, MatchM, AutI, GraphI, StepI, NodesI. -/
import Derived.Test.YtmlfkledhnlkeaaPartAC
import Derived.Test.YtmlfkledhnlkeaaPartAB
/- Plain: sets of states as numbers, the steps of the product of a graph and an automaton, distances by breadth first search. -/
namespace Go.Proofs.Ytmlfkledhnlkeaa
set_option linter.unusedVariables false
set_option linter.unusedSimpArgs false

/-! ### Numbers as sets -/
def mem (n m : Nat) : List Nat := (List.range n).filter m.testBit
theorem mem_zero (m : Nat) : mem 0 m = [] := rfl
theorem mem_succ (n m : Nat) : mem (n + 1) m = mem n m ++ (if m.testBit n = true then [n] else []) := by
  unfold mem
  rw [List.range_succ, List.filter_append]
  congr 1
  cases h : m.testBit n <;> simp [h]
theorem mem_yes {n m : Nat} (h : m.testBit n = true) : mem (n + 1) m = mem n m ++ [n] := by rw [mem_succ, if_pos h]
theorem mem_no {n m : Nat} (h : m.testBit n = false) : mem (n + 1) m = mem n m := by rw [mem_succ, if_neg (by simp [h]), List.append_nil]
theorem mem_mem {n m t : Nat} : t ∈ mem n m ↔ t < n ∧ m.testBit t = true := by simp [mem]
theorem mem_stop {i n m : Nat} (h : m < 2 ^ i) (hn : i ≤ n) : mem n m = mem i m := by
  induction n with
  | zero =>
    have : i = 0 := by omega
    subst this; rfl
  | succ n ih =>
    by_cases h1 : i ≤ n
    · rw [mem_no (Nat.testBit_lt_two_pow (Nat.lt_of_lt_of_le h (Nat.pow_le_pow_right (by omega) h1))), ih h1]
    · have : i = n + 1 := by omega
      subst this; rfl
theorem mem_len (n m : Nat) : (mem n m).length ≤ n := by
  have := List.length_filter_le m.testBit (List.range n)
  rw [List.length_range] at this
  exact this
/-- {s}, and m with s put in: plain names, so that a walk leaves them alone -/
def bit (s : Nat) : Nat := 2 ^ s
def ins (m s : Nat) : Nat := m ||| 2 ^ s
theorem bit_test (s t : Nat) : (bit s).testBit t = decide (s = t) := by rw [bit, Nat.testBit_two_pow]
theorem ins_test (m s t : Nat) : (ins m s).testBit t = (m.testBit t || decide (s = t)) := by rw [ins, Nat.testBit_or, Nat.testBit_two_pow]
theorem ins_zero (s : Nat) : ins 0 s = bit s := by simp [ins, bit]
theorem bit_lt {n s : Nat} (h : s < n) : bit s < 2 ^ n := Nat.pow_lt_pow_right (by omega) h
theorem mem_pow_ge {n s : Nat} (h : n ≤ s) : mem n (bit s) = [] := by
  induction n with
  | zero => rfl
  | succ n ih => rw [mem_no (by rw [bit_test]; simp; omega), ih (by omega)]
theorem mem_pow {n s : Nat} (h : s < n) : mem n (bit s) = [s] := by
  induction n with
  | zero => omega
  | succ n ih =>
    by_cases hs : s = n
    · subst hs
      rw [mem_yes (by rw [bit_test]; simp), mem_pow_ge (Nat.le_refl _)]; rfl
    · rw [mem_no (by rw [bit_test]; simp; omega), ih (by omega)]
theorem mem_or_ge {n m t : Nat} (h : n ≤ t) : mem n (ins m t) = mem n m := by
  unfold mem
  apply List.filter_congr
  intro x hx
  have := List.mem_range.1 hx
  rw [ins_test]
  have h2 : ¬ t = x := by omega
  simp [h2]
theorem cnt_or {n m t : Nat} (ht : t < n) (hm : m.testBit t = false) : (mem n (ins m t)).length = (mem n m).length + 1 := by
  induction n with
  | zero => omega
  | succ n ih =>
    by_cases h : t = n
    · subst h
      rw [mem_yes (by rw [ins_test]; simp), mem_no hm, mem_or_ge (Nat.le_refl _)]
      simp
    · have := ih (by omega)
      have hb : (ins m t).testBit n = m.testBit n := by
        rw [ins_test]
        simp [h]
      cases hn : m.testBit n with
      | false => rw [mem_no (by rw [hb, hn]), mem_no hn, this]
      | true => rw [mem_yes (by rw [hb, hn]), mem_yes hn, List.length_append, List.length_append, this]; rfl
theorem ins_lt {n m t : Nat} (hm : m < 2 ^ n) (ht : t < n) : ins m t < 2 ^ n := Nat.or_lt_two_pow hm (Nat.pow_lt_pow_right (by omega) ht)
theorem foldl_inv {α β : Type} {P : α → Prop} {f : α → β → α} (h : ∀ m x, P m → P (f m x)) : ∀ (l : List β) (m : α), P m → P (l.foldl f m)
  | [], _, hm => hm
  | x :: l, m, hm => foldl_inv h l (f m x) (h m x hm)

theorem foldl_take {α β : Type} {f : α → β → α} {xs : List β} {i : Nat} {x : β} (h : xs[i]? = some x) (z : α) : (xs.take (i + 1)).foldl f z = f ((xs.take i).foldl f z) x := by
  rw [take_snoc h, List.foldl_append]; rfl

/-! ### Steps of the automaton -/
def mv (a : Au) (s l : Nat) : Int := (a.next.getD s []).getD l (-1)
theorem mv_of {a : Au} {s l : Nat} {row : List Int} {t : Int} (hr : a.next[s]? = some row) (ht : row[l]? = some t) : mv a s l = t := by
  simp [mv, List.getD, hr, ht]
theorem mv_lt {a : Au} (h : auOk a = true) (s l : Nat) : -1 ≤ mv a s l ∧ mv a s l ≤ (a.accept.length : Int) - 1 := by
  obtain ⟨⟨h1, _⟩, _, _, hr⟩ := auOk_iff.1 h
  unfold mv
  cases hs : a.next[s]? with
  | none => simp [List.getD, hs]; omega
  | some row =>
    obtain ⟨hrow, _⟩ := rowOk_iff.1 (hr row (List.mem_of_getElem? hs))
    cases ht : row[l]? with
    | none => simp [List.getD, hs, ht]; omega
    | some t =>
      simp only [List.getD, hs, ht, Option.getD_some]
      exact hrow t (List.mem_of_getElem? ht)
/-- what the loop 'while s is a state that is not in the set' gathers -/
def clsF (a : Au) (l : Nat) : Nat → Int → Nat → Nat
  | 0, _, m => m
  | f + 1, s, m => if 0 ≤ s ∧ m.testBit s.toNat = false then clsF a l f (mv a s.toNat l) (ins m s.toNat) else m
def cls (a : Au) (v s : Nat) : Nat := clsF a (6 + v) 13 s 0
theorem clsF_lt {a : Au} (h : auOk a = true) (l : Nat) : ∀ (f : Nat) (s : Int) (m : Nat), s < (a.accept.length : Int) → m < 2 ^ a.accept.length → clsF a l f s m < 2 ^ a.accept.length := by
  intro f
  induction f with
  | zero => intro s m _ hm; exact hm
  | succ f ih =>
    intro s m hs hm
    rw [clsF]
    split
    · rename_i hc
      exact ih _ _ (by have := (mv_lt h s.toNat l).2; omega) (ins_lt hm (by omega))
    · exact hm
theorem cls_lt {a : Au} (h : auOk a = true) (v s : Nat) (hs : s < a.accept.length) : cls a v s < 2 ^ a.accept.length := clsF_lt h _ _ _ _ (by omega) (Nat.two_pow_pos _)
theorem clsF_stop {a : Au} {l : Nat} {f : Nat} {s : Int} {m : Nat} (h : s < 0 ∨ m.testBit s.toNat = true) : clsF a l f s m = m := by
  cases f with
  | zero => rfl
  | succ f =>
    rw [clsF, if_neg]
    rintro ⟨h1, h2⟩
    rcases h with h | h
    · omega
    · rw [h] at h2; cases h2
theorem clsF_go {a : Au} {l : Nat} {f s : Nat} {m : Nat} (h : m.testBit s = false) : clsF a l (f + 1) s m = clsF a l f (mv a s l) (ins m s) := by
  rw [clsF, if_pos ⟨by omega, by simpa using h⟩]
  simp

def aft1 (a : Au) (l : Nat) (m t : Nat) : Nat := if 0 ≤ mv a t l then ins m (mv a t l).toNat else m
def aftS (a : Au) (v l : Nat) (m s : Nat) : Nat := (mem 12 (cls a v s)).foldl (aft1 a l) m
def aft (a : Au) (set v l : Nat) : Nat := (mem 12 set).foldl (aftS a v l) 0
theorem aft1_lt {a : Au} (h : auOk a = true) (l m t : Nat) (hm : m < 2 ^ a.accept.length) : aft1 a l m t < 2 ^ a.accept.length := by
  unfold aft1
  split
  · have := (mv_lt h t l).2
    exact ins_lt hm (by omega)
  · exact hm
theorem aftS_lt {a : Au} (h : auOk a = true) (v l m s : Nat) (hm : m < 2 ^ a.accept.length) : aftS a v l m s < 2 ^ a.accept.length :=
  foldl_inv (P := fun m => m < 2 ^ a.accept.length) (fun m x hm => aft1_lt h l m x hm) _ _ hm
theorem aft_lt {a : Au} (h : auOk a = true) (set v l : Nat) : aft a set v l < 2 ^ a.accept.length :=
  foldl_inv (P := fun m => m < 2 ^ a.accept.length) (fun m x hm => aftS_lt h v l m x hm) _ _ (Nat.two_pow_pos _)
theorem lt12 {a : Au} (h : auOk a = true) {m : Nat} (hm : m < 2 ^ a.accept.length) : m < 4096 := by
  have h1 : a.accept.length ≤ 12 := (auOk_iff.1 h).1.2
  exact Nat.lt_of_lt_of_le hm (Nat.pow_le_pow_right (by omega) h1 : 2 ^ a.accept.length ≤ 2 ^ 12)
theorem mem12 {a : Au} (h : auOk a = true) {m : Nat} (hm : m < 2 ^ a.accept.length) : mem 12 m = mem a.accept.length m := mem_stop hm (auOk_iff.1 h).1.2
theorem aft_one {a : Au} (v l : Nat) {s : Nat} (hs : s < 12) : aft a (bit s) v l = (mem 12 (cls a v s)).foldl (aft1 a l) 0 := by
  rw [aft, mem_pow hs]; rfl

def accC (a : Au) (v s : Nat) : Bool := (mem 12 (cls a v s)).any fun t => a.accept.getD t false
def acc (a : Au) (set v : Nat) : Bool := (mem 12 set).any (accC a v)
theorem acc_one (a : Au) (v : Nat) {s : Nat} (hs : s < 12) : acc a (bit s) v = accC a v s := by rw [acc, mem_pow hs]; simp

/-! ### Steps of the graph -/
abbrev Arc := St × Int × Int
def arcE (x : Int) (e : Ed) : List Arc := (if e.2.1 = x then [((e.1, false), 2 * e.2.2.2, e.2.2.1)] else []) ++ (if e.2.2.1 = x then [((e.1, true), 2 * e.2.2.2 + 1, e.2.1)] else [])
def arcsOf (g : Gr) (x : Int) : List Arc := g.edges.flatMap (arcE x)
theorem flat_take {α β : Type} {f : α → List β} {xs : List α} {i : Nat} {x : α} (h : xs[i]? = some x) : (xs.take (i + 1)).flatMap f = (xs.take i).flatMap f ++ f x := by
  rw [take_snoc h, List.flatMap_append]; simp
theorem mem_arcE {x : Int} {e : Ed} {y : Arc} : y ∈ arcE x e ↔ (e.2.1 = x ∧ y = ((e.1, false), 2 * e.2.2.2, e.2.2.1)) ∨ (e.2.2.1 = x ∧ y = ((e.1, true), 2 * e.2.2.2 + 1, e.2.1)) := by
  unfold arcE
  rw [List.mem_append]
  by_cases h1 : e.2.1 = x <;> by_cases h2 : e.2.2.1 = x <;> simp [h1, h2]
theorem ids_lt {g : Gr} (hg : GrOk g) : ∀ (k i : Nat) (p e : Ed), g.edges[i]? = some p → g.edges[i + 1 + k]? = some e → p.1 < e.1 := by
  intro k
  induction k with
  | zero => intro i p e hp he; exact hg.asc i p e hp he
  | succ k ih =>
    intro i p e hp he
    have hlt := (List.getElem?_eq_some_iff.1 he).1
    have hq : g.edges[i + 1 + k]? = some g.edges[i + 1 + k] := List.getElem?_eq_getElem (by omega)
    exact Int.lt_trans (ih i p _ hp hq) (hg.asc _ _ _ hq he)
theorem edgeIdx_at {g : Gr} (hg : GrOk g) {i : Nat} {e : Ed} (he : g.edges[i]? = some e) : edgeIdx g e.1 = i := by
  refine edgeIdx_some he rfl fun y hy hye => ?_
  obtain ⟨j, hj, hjy⟩ := List.getElem_of_mem hy
  rw [List.length_take] at hj
  rw [List.getElem_take] at hjy
  have hj' : g.edges[j]? = some y := by rw [← hjy]; exact List.getElem?_eq_getElem (by omega)
  have := ids_lt hg (i - j - 1) j y e hj' (by rw [show j + 1 + (i - j - 1) = i by omega]; exact he)
  omega
def arcLetter (b : Bool) (e : Ed) : Int := if b then 2 * e.2.2.2 + 1 else 2 * e.2.2.2
def arcTo (b : Bool) (e : Ed) : Int := if b then e.2.1 else e.2.2.1
theorem arc_edge {g : Gr} (hg : GrOk g) {x : Int} {y : Arc} (hy : y ∈ arcsOf g x) :
    ∃ (i : Nat) (e : Ed), edgeIdx g y.1.1 = i ∧ g.edges[i]? = some e ∧ y.2.1 = arcLetter y.1.2 e ∧ y.2.2 = arcTo y.1.2 e ∧ e.1 = y.1.1 ∧ e ∈ g.edges := by
  obtain ⟨e, he, hye⟩ := List.mem_flatMap.1 hy
  obtain ⟨i, hi, hie⟩ := List.getElem_of_mem he
  have hi' : g.edges[i]? = some e := by rw [← hie]; exact List.getElem?_eq_getElem hi
  have hx := edgeIdx_at hg hi'
  rcases mem_arcE.1 hye with ⟨_, rfl⟩ | ⟨_, rfl⟩
  · exact ⟨i, e, hx, hi', rfl, rfl, rfl, he⟩
  · exact ⟨i, e, hx, hi', rfl, rfl, rfl, he⟩
theorem arc_range {g : Gr} (hg : GrOk g) {x : Int} {y : Arc} (hy : y ∈ arcsOf g x) : (0 ≤ y.2.1 ∧ y.2.1 ≤ 5) ∧ 0 ≤ y.2.2 ∧ y.2.2 ≤ (g.vals.length : Int) - 1 := by
  obtain ⟨i, e, _, _, h1, h2, _, he⟩ := arc_edge hg hy
  obtain ⟨_, h3, h4, h5⟩ := hg.edges e he
  rw [h1, h2]
  unfold arcLetter arcTo
  split <;> omega
theorem arcE_len (x : Int) (e : Ed) : (arcE x e).length ≤ 2 := by
  unfold arcE
  rw [List.length_append]
  split <;> split <;> simp
theorem flat_len {α β : Type} {f : α → List β} {k : Nat} (h : ∀ x, (f x).length ≤ k) : ∀ xs : List α, (xs.flatMap f).length ≤ xs.length * k
  | [] => by simp
  | x :: xs => by
    have := flat_len h xs
    rw [List.flatMap_cons, List.length_append, List.length_cons, Nat.succ_mul]
    have := h x
    omega
theorem arcs_len {g : Gr} (hg : GrOk g) (x : Int) : (arcsOf g x).length ≤ 24 := by
  have := flat_len (arcE_len x) g.edges
  have := hg.e12
  unfold arcsOf
  omega

/-! ### Vertices: node * n + state -/
def valAt (g : Gr) (x : Nat) : Nat := (g.vals.getD x 0).toNat
theorem valAt_of {g : Gr} {x : Nat} {v : Int} (h : g.vals[x]? = some v) : valAt g x = v.toNat := by simp [valAt, List.getD, h]
theorem valAt_lt {g : Gr} (hg : GrOk g) (x : Nat) : valAt g x ≤ 2 := by
  unfold valAt
  cases h : g.vals[x]? with
  | none => simp [List.getD, h]
  | some v =>
    have := hg.vals v (List.mem_of_getElem? h)
    simp only [List.getD, h, Option.getD_some]
    omega
/-- the vertices behind vertex (x, s) by one arc -/
def nextA (g : Gr) (a : Au) (x s : Nat) (y : Arc) : List Nat := (mem 12 (aft a (bit s) (valAt g x) y.2.1.toNat)).map fun t => y.2.2.toNat * a.accept.length + t
def nextV (g : Gr) (a : Au) (x s : Nat) : List Nat := (arcsOf g (x : Int)).flatMap (nextA g a x s)
def nextI (g : Gr) (a : Au) (i : Nat) : List Nat := nextV g a (i / a.accept.length) (i % a.accept.length)
theorem nextV_lt {g : Gr} {a : Au} (hg : GrOk g) (ha : auOk a = true) {x s k : Nat} (h : k ∈ nextV g a x s) : k < g.vals.length * a.accept.length := by
  obtain ⟨y, hy, hk⟩ := List.mem_flatMap.1 h
  obtain ⟨t, ht, rfl⟩ := List.mem_map.1 hk
  have h1 := (arc_range hg hy).2
  have h2 := aft_lt ha (bit s) (valAt g x) y.2.1.toNat
  rw [mem12 ha h2, mem_mem] at ht
  have h3 : y.2.2.toNat + 1 ≤ g.vals.length := by omega
  have h4 := Nat.mul_le_mul_right a.accept.length h3
  rw [Nat.succ_mul] at h4
  omega
theorem nextV_len {g : Gr} {a : Au} (hg : GrOk g) (x s : Nat) : (nextV g a x s).length ≤ 288 := by
  have h1 : ∀ y, (nextA g a x s y).length ≤ 12 := fun y => by rw [nextA, List.length_map]; exact mem_len _ _
  have h2 := flat_len h1 (arcsOf g (x : Int))
  have h3 := arcs_len hg (x : Int)
  unfold nextV
  omega

/-! ### Breadth first search -/
def relax (d : Int) : List Nat → List Int → List Nat → List Int × List Nat
  | [], D, q => (D, q)
  | k :: l, D, q => if D.getD k 0 < 0 then relax d l (D.set k d) (q ++ [k]) else relax d l D q
def bfs (next : Nat → List Nat) : Nat → List Int → List Nat → List Int
  | 0, D, _ => D
  | _ + 1, D, [] => D
  | f + 1, D, h :: q => bfs next f (relax (D.getD h 0 + 1) (next h) D q).1 (relax (D.getD h 0 + 1) (next h) D q).2
def negs (D : List Int) : Nat := D.countP (fun x => decide (x < 0))
theorem negs_set {D : List Int} {k : Nat} {d : Int} (hk : k < D.length) (hn : D.getD k 0 < 0) (hd : 0 ≤ d) : negs (D.set k d) + 1 = negs D := by
  induction D generalizing k with
  | nil => simp at hk
  | cons x D ih =>
    cases k with
    | zero =>
      simp only [List.getD_cons_zero] at hn
      have : ¬ d < 0 := by omega
      simp [negs, List.countP_cons, hn, this]
    | succ k =>
      have := ih (k := k) (by simpa using hk) (by simpa using hn)
      simp only [negs, List.set_cons_succ, List.countP_cons] at this ⊢
      omega
/-- what holds of distances D and a queue q, with f rounds left of F -/
structure BfsI (N F f : Nat) (D : List Int) (q : List Nat) : Prop where
  len : D.length = N
  queue : ∀ h ∈ q, h < N ∧ 0 ≤ D.getD h 0
  fuel : q.length + negs D ≤ f
  top : ∀ h, D.getD h 0 + (f : Int) ≤ F
  low : ∀ h, -1 ≤ D.getD h 0
  fF : f ≤ F
theorem getD_set' {D : List Int} {k h : Nat} {d : Int} (hk : k < D.length) : (D.set k d).getD h 0 = if h = k then d else D.getD h 0 := by
  simp only [List.getD, List.getElem?_set]
  by_cases hh : h = k
  · subst hh; simp [hk]
  · simp [hh, Ne.symm hh]
theorem BfsI.new {N F f : Nat} {D : List Int} {q : List Nat} {k : Nat} {d : Int} (h : BfsI N F f D q) (hk : k < N) (hn : D.getD k 0 < 0) (hd : 0 ≤ d) (hdF : d + (f : Int) ≤ F) : BfsI N F f (D.set k d) (q ++ [k]) := by
  have hkl : k < D.length := by rw [h.len]; exact hk
  refine ⟨by rw [List.length_set]; exact h.len, fun x hx => ?_, ?_, fun x => ?_, fun x => ?_, h.fF⟩
  · rw [getD_set' hkl]
    rcases List.mem_append.1 hx with hx | hx
    · have := h.queue x hx
      split
      · exact ⟨this.1, hd⟩
      · exact this
    · have : x = k := by simpa using hx
      subst this
      simp [hk, hd]
  · have := negs_set hkl hn hd
    have := h.fuel
    rw [List.length_append, List.length_singleton]
    omega
  · rw [getD_set' hkl]
    have := h.top x
    split <;> omega
  · rw [getD_set' hkl]
    have := h.low x
    split <;> omega
theorem BfsI.pop {N F f : Nat} {D : List Int} {q : List Nat} {k : Nat} (h : BfsI N F (f + 1) D (k :: q)) : BfsI N F f D q :=
  ⟨h.len, fun x hx => h.queue x (List.mem_cons_of_mem _ hx), by have := h.fuel; rw [List.length_cons] at this; omega, fun x => by have := h.top x; omega, h.low, by have := h.fF; omega⟩
theorem bfs_nil (next : Nat → List Nat) (f : Nat) (D : List Int) : bfs next f D [] = D := by cases f <;> rfl
theorem bfs_len (next : Nat → List Nat) : ∀ (f : Nat) (D : List Int) (q : List Nat), (bfs next f D q).length = D.length := by
  have hr : ∀ (d : Int) (l : List Nat) (D : List Int) (q : List Nat), (relax d l D q).1.length = D.length := by
    intro d l
    induction l with
    | nil => intro D q; rfl
    | cons k l ih =>
      intro D q
      rw [relax]
      split
      · rw [ih, List.length_set]
      · exact ih _ _
  intro f
  induction f with
  | zero => intro D q; rfl
  | succ f ih =>
    intro D q
    cases q with
    | nil => rfl
    | cons h q => rw [bfs, ih, hr]
end Go.Proofs.Ytmlfkledhnlkeaa

/- Plain: the nodes of a walk and when it is one of a graph. -/
namespace Go.Proofs.Ytmlfkledhnlkeaa
set_option linter.unusedVariables false
set_option linter.unusedSimpArgs false

def nodesL (g : Gr) (k : Wk) : List Int := k.1 :: k.2.map (stepTo g)
theorem nodesL_len (g : Gr) (k : Wk) : (nodesL g k).length = k.2.length + 1 := by simp [nodesL]
theorem nodesL_succ {g : Gr} {k : Wk} {i : Nat} {s : St} (h : k.2[i]? = some s) : (nodesL g k).take (i + 1 + 1) = (nodesL g k).take (i + 1) ++ [stepTo g s] := by
  refine take_snoc ?_
  rw [nodesL, List.getElem?_cons_succ, List.getElem?_map, h]; rfl
theorem nodesL_next {g : Gr} {k : Wk} {i : Nat} {s : St} (h : k.2[i]? = some s) : (nodesL g k)[i + 1]? = some (stepTo g s) := by rw [nodesL, List.getElem?_cons_succ, List.getElem?_map, h]; rfl
/-- the step leads from the node that the walk is at -/
def linkAt (g : Gr) (k : Wk) (i : Nat) : Bool := stepFrom g (k.2.getD i (0, false)) == (nodesL g k).getD i 0
def walkOk (g : Gr) (k : Wk) : Bool := grOk g && wi k.1 0 ((g.vals.length : Int) - 1) && decide (k.2.length ≤ 60) && (List.range k.2.length).all (linkAt g k)
/-- the nodes of a walk of the graph; none of another -/
def nodesOut (g : Gr) (k : Wk) : List Int := if walkOk g k = true then nodesL g k else []
theorem nodesOut_no {g : Gr} {k : Wk} (h : walkOk g k = false) : nodesOut g k = [] := by rw [nodesOut, h]; rfl
theorem nodesOut_yes {g : Gr} {k : Wk} (h : walkOk g k = true) : nodesOut g k = nodesL g k := by rw [nodesOut, h]; rfl
theorem linkAt_eq {g : Gr} {k : Wk} {i : Nat} {s : St} {x : Int} (h : k.2[i]? = some s) (hx : (nodesL g k)[i]? = some x) : linkAt g k i = (stepFrom g s == x) := by
  rw [linkAt, List.getD_eq_getElem?_getD, h, List.getD_eq_getElem?_getD, hx]; rfl
theorem walkOk_long {g : Gr} {k : Wk} (h : 60 < k.2.length) : walkOk g k = false := by
  rw [walkOk, show decide (k.2.length ≤ 60) = false by simp; omega]
  simp
def walkAllowed (g : Gr) (c : Int) (k : Wk) : Bool := k.2.all (stepAllowed g c) && wi c 0 4 && walkOk g k
end Go.Proofs.Ytmlfkledhnlkeaa

/- Plain: the sets of states along a walk, and whether a walk matches. -/
namespace Go.Proofs.Ytmlfkledhnlkeaa
set_option linter.unusedVariables false
set_option linter.unusedSimpArgs false
/-- node i of a walk -/
def nodeAt (g : Gr) (k : Wk) (i : Nat) : Nat := ((nodesL g k).getD i 0).toNat
def letAt (g : Gr) (k : Wk) (i : Nat) : Nat := (stepLetter g (k.2.getD i (0, false))).toNat
/-- the states behind i steps -/
def setAt (g : Gr) (a : Au) (k : Wk) : Nat → Nat
  | 0 => bit a.start.toNat
  | i + 1 => aft a (setAt g a k i) (valAt g (nodeAt g k i)) (letAt g k i)
def setsL (g : Gr) (a : Au) (k : Wk) (n : Nat) : List Nat := (List.range n).map (setAt g a k)
theorem setsL_len (g : Gr) (a : Au) (k : Wk) (n : Nat) : (setsL g a k n).length = n := by simp [setsL]
theorem setsL_snoc (g : Gr) (a : Au) (k : Wk) (n : Nat) : setsL g a k (n + 1) = setsL g a k n ++ [setAt g a k n] := by simp [setsL, List.range_succ]
theorem setsL_at {g : Gr} {a : Au} {k : Wk} {n i : Nat} (h : i < n) : (setsL g a k n)[i]? = some (setAt g a k i) := by simp [setsL, h]
theorem setAt_lt {g : Gr} {a : Au} (ha : auOk a = true) (k : Wk) (i : Nat) : setAt g a k i < 2 ^ a.accept.length := by
  cases i with
  | zero => exact bit_lt (by have := (auOk_iff.1 ha).2.1; omega)
  | succ i => exact aft_lt ha _ _ _
theorem walkOk_parts {g : Gr} {k : Wk} (h : walkOk g k = true) : GrOk g ∧ (0 ≤ k.1 ∧ k.1 ≤ (g.vals.length : Int) - 1) ∧ k.2.length ≤ 60 ∧ ∀ i, i < k.2.length → linkAt g k i = true := by
  simp only [walkOk, Bool.and_eq_true, wi_iff, decide_eq_true_eq, List.all_eq_true, List.mem_range] at h
  exact ⟨grOk_iff.1 h.1.1.1, h.1.1.2, h.1.2, h.2⟩
theorem stepTo_of {g : Gr} {s : St} {e : Ed} (h : stepEd g s.1 = some e) : stepTo g s = arcTo s.2 e := by
  unfold stepTo stepFrom arcTo
  simp only [h]
  cases s.2 <;> rfl
theorem stepFrom_of {g : Gr} {s : St} {e : Ed} (h : stepEd g s.1 = some e) : stepFrom g s = arcTo (!s.2) e := by
  unfold stepFrom arcTo
  simp only [h]
  cases s.2 <;> rfl
theorem stepLetter_of {g : Gr} {s : St} {e : Ed} (h : stepEd g s.1 = some e) : stepLetter g s = arcLetter s.2 e := by
  unfold stepLetter arcLetter
  simp only [h]
theorem nodeAt_at {g : Gr} {k : Wk} {i : Nat} (h : i ≤ k.2.length) : (nodesL g k)[i]? = some ((nodesL g k).getD i 0) := by
  rw [List.getD_eq_getElem?_getD, List.getElem?_eq_getElem (by rw [nodesL_len]; omega)]; rfl
/-- the nodes of a walk of the graph are nodes of the graph, and its steps are edges of it -/
theorem walk_parts {g : Gr} {k : Wk} (h : walkOk g k = true) : ∀ {i : Nat}, i ≤ k.2.length → (0 ≤ (nodesL g k).getD i 0 ∧ (nodesL g k).getD i 0 ≤ (g.vals.length : Int) - 1) ∧
    (i < k.2.length → ∃ s e, k.2[i]? = some s ∧ stepEd g s.1 = some e ∧ stepFrom g s = (nodesL g k).getD i 0 ∧ stepTo g s = (nodesL g k).getD (i + 1) 0) := by
  obtain ⟨hg, hk, -, hl⟩ := walkOk_parts h
  have step : ∀ i, i < k.2.length → 0 ≤ (nodesL g k).getD i 0 → ∃ s e, k.2[i]? = some s ∧ stepEd g s.1 = some e ∧ stepFrom g s = (nodesL g k).getD i 0 ∧ stepTo g s = (nodesL g k).getD (i + 1) 0 := by
    intro i hi h0
    have hs : k.2[i]? = some k.2[i] := List.getElem?_eq_getElem hi
    generalize k.2[i] = s at hs
    have hlk := hl i hi
    rw [linkAt_eq hs (nodeAt_at (by omega)), beq_iff_eq] at hlk
    have hnx := nodesL_next (g := g) hs
    have hnx2 := nodeAt_at (g := g) (k := k) (i := i + 1) (by omega)
    rw [hnx] at hnx2
    cases he : stepEd g s.1 with
    | none =>
      have := stepFrom_neg.2 he
      omega
    | some e => exact ⟨s, e, hs, he, hlk, by injection hnx2⟩
  intro i
  induction i with
  | zero => exact fun _ => ⟨hk, fun hi => step 0 hi hk.1⟩
  | succ i ih =>
    intro hi
    obtain ⟨hr, hst⟩ := ih (by omega)
    obtain ⟨s, e, hs, he, hf, ht⟩ := hst (by omega)
    have hrange : 0 ≤ stepTo g s ∧ stepTo g s ≤ (g.vals.length : Int) - 1 := by
      rw [stepTo_of he]
      obtain ⟨_, hm, _⟩ := stepEd_ok he
      have := hg.edges e hm
      unfold arcTo
      split <;> omega
    rw [ht] at hrange
    exact ⟨hrange, fun hi2 => step (i + 1) hi2 hrange.1⟩
theorem nodeAt_lt {g : Gr} {k : Wk} (h : walkOk g k = true) {i : Nat} (hi : i ≤ k.2.length) : (nodesL g k)[i]? = some (nodeAt g k i : Int) ∧ nodeAt g k i < g.vals.length := by
  have h1 := (walk_parts h hi).1
  refine ⟨?_, ?_⟩
  · rw [nodeAt_at hi, nodeAt, Int.toNat_of_nonneg h1.1]
  · unfold nodeAt; omega
/-- step i: its edge, its letter, the node behind it -/
theorem walk_step {g : Gr} {k : Wk} (h : walkOk g k = true) {i : Nat} (hi : i < k.2.length) : ∃ s e, k.2[i]? = some s ∧ stepEd g s.1 = some e ∧ arcTo s.2 e = (nodeAt g k (i + 1) : Int) ∧ arcLetter s.2 e = (letAt g k i : Int) ∧ stepLetter g s = (letAt g k i : Int) ∧ letAt g k i < 6 := by
  obtain ⟨s, e, hs, he, -, ht⟩ := (walk_parts h (Nat.le_of_lt hi)).2 hi
  obtain ⟨hg, hm, _⟩ := stepEd_ok he
  have hl := hg.edges e hm
  have h1 := (walk_parts h (show i + 1 ≤ k.2.length from hi)).1
  have hsd : k.2.getD i (0, false) = s := by rw [List.getD_eq_getElem?_getD, hs]; rfl
  have hr : 0 ≤ arcLetter s.2 e ∧ arcLetter s.2 e ≤ 5 := by
    unfold arcLetter
    split <;> omega
  have hla : (letAt g k i : Int) = arcLetter s.2 e := by rw [letAt, hsd, stepLetter_of he, Int.toNat_of_nonneg hr.1]
  refine ⟨s, e, hs, he, ?_, hla.symm, by rw [stepLetter_of he, hla], by omega⟩
  rw [← stepTo_of he, ht, nodeAt, Int.toNat_of_nonneg h1.1]
/-! ### Whether a walk matches -/
def walkEnd (g : Gr) (k : Wk) : Int := if walkOk g k = true then (nodeAt g k k.2.length : Int) else -1
def matchB (g : Gr) (a : Au) (k : Wk) : Bool := (walkOk g k && auOk a) && acc a (setAt g a k k.2.length) (valAt g (nodeAt g k k.2.length))
def isWit (g : Gr) (a : Au) (x y : Int) (k : Wk) : Bool := (k.1 == x && walkEnd g k == y) && matchB g a k
def alongS (g : Gr) (a : Au) (k : Wk) : List Nat := if (walkOk g k && auOk a) = true then setsL g a k (k.2.length + 1) else []
def alongN (g : Gr) (a : Au) (k : Wk) : List Int := if (walkOk g k && auOk a) = true then nodesL g k else []
end Go.Proofs.Ytmlfkledhnlkeaa

/- The program's functions on automata. -/
namespace Go.Proofs.Ytmlfkledhnlkeaa
set_option linter.unusedVariables false
set_option linter.unusedSimpArgs false
open Go.ChangeShapes Go.WideShapes Go.ChangeAt Go.RowKit
attribute [local go_sem] ext_cell ext_frozen ext_lt ext_lt1 ext_lt2 ext_lt3 ltn2 ltn3 ltn13 lts1 lts2 lts3

theorem within_any (n a b : Int) (w : World) : Calls Try.prog 79 #[.int .i64 n, .int .i64 a, .int .i64 b] w fun e w' => e = .returned (.bool (wi n a b)) ∧ w' = w := by
  unfold wi
  by_cases h1 : a ≤ n
  · have e1 : decide (a ≤ n) = true := by simpa using h1
    by_cases h2 : n ≤ b
    · go_enter Try.func79, Try.ntmps79
      go_wp2
      go_ret
      exact ⟨by simp [h1, h2], rfl⟩
    · go_enter Try.func79, Try.ntmps79
      go_wp2
      go_ret
      exact ⟨by simp [h1]; try omega, rfl⟩
  · have e1 : decide (a ≤ n) = false := by simpa using h1
    go_enter Try.func79, Try.ntmps79
    go_wp2
    go_ret
    exact ⟨by simp [h1]; try omega, rfl⟩

set_option maxHeartbeats 1000000 in
theorem implValidAutomaton (v : Value) (a : Au) (w : World) (hv : AuV 0 w.heap.size w v a) :
    Calls Try.prog 120 #[v] w fun e w' => e = .returned (.bool (auOk a)) ∧ Below w.heap.size w w' := by
  obtain ⟨ac, nx, rfl, ⟨A1, c1, rfl, hl1, hm1, -⟩, us, ⟨A2, c2, rfl, hl2, hm2, hx2⟩, hul, hrows⟩ := hv
  rw [hul] at hl2 ⊢
  have HU := Lib.hid hul
  clear hul
  unfold maxLen at hm1 hm2
  have hb0 : Below w.heap.size w (w.alloc (.cells #[.int .i64 a.start, .slice A1 a.accept.length c1, .slice A2 a.next.length c2] 50)) := (Below.refl _ _).alloc (Nat.le_refl _) _
  have HW := Lib.hid within_any
  by_cases g1 : wi a.accept.length 1 12 = true
  · by_cases g2 : wi a.start 0 ((a.accept.length : Int) - 1) = true
    · by_cases g3 : a.next.length = a.accept.length
      · have HG3 := Lib.hid g3
        have g3' : ((a.next.length : Int) != (a.accept.length : Int)) = false := by simp; omega
        have hr : auOk a = a.next.all (rowOk a.accept.length) := by simp [auOk, g1, g2, g3]
        have HR := Lib.hid hr
        clear hr g3
        obtain ⟨hn1, hn2⟩ := wi_iff.1 g1
        go_enter Try.func120, Try.ntmps120
        go_wp2_with (go_at_call 79; refine (HW.out _ _ _ _).mono ?_; rintro e w' ⟨rfl, rfl⟩)
        go_loop [32] (fun ii => ∃ i : Nat, i ≤ a.next.length ∧ ii = .int .i64 i ∧ (a.next.take i).all (rowOk a.accept.length) = true) (fun ii => a.next.length - (intOf ii).toNat)
        case atStart => exact ⟨0, Nat.zero_le _, rfl, rfl⟩
        case round =>
          obtain ⟨i, hi, rfl, hall⟩ := hrel
          have HA := Lib.hid hall
          clear hall
          by_cases hlt : i < a.next.length
          · obtain ⟨u, hu⟩ : ∃ u, us[i]? = some u := ⟨_, List.getElem?_eq_getElem (by have := HU.out; omega)⟩
            obtain ⟨b, o, rfl, -, hb1, hc⟩ := hx2 i u hu
            have hxi : a.next[i]? = some a.next[i] := List.getElem?_eq_getElem hlt
            have hvi := hrows i u _ hu hxi
            generalize a.next[i] = row at hvi hxi
            have c0 := hc 0 _ rfl
            simp only [Nat.mul_one, Nat.add_zero] at c0
            obtain ⟨A3, c3, rfl, hl3, hm3, hx3⟩ := hvi
            unfold maxLen at hm3
            have HX := Lib.hid hxi
            clear hc hx2 hu hxi hrows
            go_wp2_with fail
            go_loop [38] (fun jj => ∃ j : Nat, j ≤ row.length ∧ jj = .int .i64 j ∧ (row.take j).all (fun t => wi t (-1) ((a.accept.length : Int) - 1)) = true) (fun jj => row.length - (intOf jj).toNat)
            case atStart => exact ⟨0, Nat.zero_le _, rfl, rfl⟩
            case round =>
              obtain ⟨j, hj, rfl, hall2⟩ := hrel
              have HB := Lib.hid hall2
              clear hall2
              by_cases hlt2 : j < row.length
              · have hxj : row[j]? = some row[j] := List.getElem?_eq_getElem hlt2
                obtain ⟨b2, o2, rfl, -, hb2, hc2⟩ := hx3 j _ hxj
                generalize row[j] = t at hc2 hxj
                have d0 := hc2 0 _ rfl
                simp only [Nat.mul_one, Nat.add_zero] at d0
                have HXJ := Lib.hid hxj
                clear hc2 hx3 hxj
                by_cases g4 : wi t (-1) ((a.accept.length : Int) - 1) = true
                · go_wp2_with (go_at_call 79; refine (HW.out _ _ _ _).mono ?_; rintro e w' ⟨rfl, rfl⟩)
                  go_round
                  case rel => exact ⟨j + 1, by omega, by go_num, all_take_succ HXJ.out HB.out g4⟩
                  case measure => simp [intOf]; omega
                · simp only [Bool.not_eq_true] at g4
                  have hfin : auOk a = false := by
                    rw [HR.out]
                    refine all_false_of HX.out ?_
                    rw [rowOk, all_false_of HXJ.out g4]
                    rfl
                  have HF := Lib.hid hfin
                  clear hfin
                  go_wp2_with (go_at_call 79; refine (HW.out _ _ _ _).mono ?_; rintro e w' ⟨rfl, rfl⟩)
                  go_ret
                  exact ⟨by rw [HF.out]; rfl, hb0⟩
              · obtain rfl : j = row.length := by omega
                have hall3 : row.all (fun t => wi t (-1) ((a.accept.length : Int) - 1)) = true := by have := HB.out; rwa [List.take_length] at this
                have H3 := Lib.hid hall3
                clear hall3
                clear hx3
                by_cases g9 : row.length = 9
                · have g9' : ((row.length : Int) != 9) = false := by simp; omega
                  have hok : rowOk a.accept.length row = true := by rw [rowOk, H3.out, g9]; rfl
                  have HO := Lib.hid hok
                  clear hok g9
                  go_wp2_with fail
                  go_round
                  case rel => exact ⟨i + 1, by omega, by go_num, all_take_succ HX.out HA.out HO.out⟩
                  case measure => simp [intOf]; omega
                · have g9' : ((row.length : Int) != 9) = true := by simp; omega
                  have hfin : auOk a = false := by
                    rw [HR.out]
                    refine all_false_of HX.out ?_
                    rw [rowOk]
                    simp [g9]
                  have HF := Lib.hid hfin
                  clear hfin g9
                  go_wp2_with fail
                  go_ret
                  exact ⟨by rw [HF.out]; rfl, hb0⟩
          · obtain rfl : i = a.next.length := by omega
            have hfin : auOk a = true := by rw [HR.out]; have := HA.out; rwa [List.take_length] at this
            have HF := Lib.hid hfin
            clear hfin hx2 hrows
            go_wp2_with fail
            go_ret
            exact ⟨by rw [HF.out]; rfl, hb0⟩
      · have g3' : ((a.next.length : Int) != (a.accept.length : Int)) = true := by simp; omega
        have hr : auOk a = false := by simp [auOk, g3]
        have HR := Lib.hid hr
        clear hr g3
        go_enter Try.func120, Try.ntmps120
        go_wp2_with (go_at_call 79; refine (HW.out _ _ _ _).mono ?_; rintro e w' ⟨rfl, rfl⟩)
        go_ret
        exact ⟨by rw [HR.out]; rfl, hb0⟩
    · simp only [Bool.not_eq_true] at g2
      have hr : auOk a = false := by simp [auOk, g2]
      have HR := Lib.hid hr
      clear hr
      go_enter Try.func120, Try.ntmps120
      go_wp2_with (go_at_call 79; refine (HW.out _ _ _ _).mono ?_; rintro e w' ⟨rfl, rfl⟩)
      go_ret
      exact ⟨by rw [HR.out]; rfl, hb0⟩
  · simp only [Bool.not_eq_true] at g1
    have hr : auOk a = false := by simp [auOk, g1]
    have HR := Lib.hid hr
    clear hr
    go_enter Try.func120, Try.ntmps120
    go_wp2_with (go_at_call 79; refine (HW.out _ _ _ _).mono ?_; rintro e w' ⟨rfl, rfl⟩)
    go_ret
    exact ⟨by rw [HR.out]; rfl, hb0⟩

end Go.Proofs.Ytmlfkledhnlkeaa

/- The program's functions on graphs: validity, edges, steps. -/
namespace Go.Proofs.Ytmlfkledhnlkeaa
set_option linter.unusedVariables false
set_option linter.unusedSimpArgs false
open Go.ChangeShapes Go.WideShapes Go.ChangeAt Go.RowKit
attribute [local go_sem] ext_cell ext_frozen ext_lt ext_lt1 ext_lt2 ext_lt3 ltn2 ltn3 ltn13 lts1 lts2 lts3

set_option maxHeartbeats 1000000 in
theorem edgeOk_any (e : Ed) (n : Nat) (w : World) (hn : n ≤ 9223372036854775807) :
    Calls Try.prog 153 #[.agg #[.int .i64 e.1, .int .i64 e.2.1, .int .i64 e.2.2.1, .int .i64 e.2.2.2], .int .i64 (n : Int)] w fun en w' => en = .returned (.bool (edOk n e)) ∧ Below w.heap.size w w' := by
  obtain ⟨a, b, c, d⟩ := e
  have HW := Lib.hid within_any
  unfold edOk
  simp only
  have hb0 : Below w.heap.size w (w.alloc (.cells #[.int .i64 a, .int .i64 b, .int .i64 c, .int .i64 d] 144)) := (Below.refl _ _).alloc (Nat.le_refl _) _
  cases g1 : wi a 1 99 with
  | false =>
    have HZ := Lib.hid g1
    go_enter Try.func153, Try.ntmps153
    go_wp2_with (go_at_call 79; refine (HW.out _ _ _ _).mono ?_; rintro e w' ⟨rfl, rfl⟩)
    go_ret
    exact ⟨rfl, hb0⟩
  | true =>
    cases g2 : wi b 0 ((n : Int) - 1) with
    | false =>
      go_enter Try.func153, Try.ntmps153
      go_wp2_with (go_at_call 79; refine (HW.out _ _ _ _).mono ?_; rintro e w' ⟨rfl, rfl⟩)
      go_ret
      exact ⟨rfl, hb0⟩
    | true =>
      cases g3 : wi c 0 ((n : Int) - 1) with
      | false =>
        go_enter Try.func153, Try.ntmps153
        go_wp2_with (go_at_call 79; refine (HW.out _ _ _ _).mono ?_; rintro e w' ⟨rfl, rfl⟩)
        go_ret
        exact ⟨rfl, hb0⟩
      | true =>
        go_enter Try.func153, Try.ntmps153
        go_wp2_with (go_at_call 79; refine (HW.out _ _ _ _).mono ?_; rintro e w' ⟨rfl, rfl⟩)
        go_ret
        exact ⟨rfl, hb0⟩

set_option maxHeartbeats 2000000 in
theorem implValidGraph (v : Value) (g : Gr) (w : World) (hv : GrV 0 w.heap.size w v g) :
    Calls Try.prog 119 #[v] w fun e w' => e = .returned (.bool (grOk g)) ∧ Below w.heap.size w w' := by
  obtain ⟨vs, es, rfl, ⟨A1, c1, rfl, hl1, hm1, hx1⟩, ⟨A2, c2, rfl, hl2, hm2, hx2⟩⟩ := hv
  unfold maxLen at hm1 hm2
  have hb0 : Below w.heap.size w (w.alloc (.cells #[.slice A1 g.vals.length c1, .slice A2 g.edges.length c2] 48)) := (Below.refl _ _).alloc (Nat.le_refl _) _
  have HW := Lib.hid within_any
  have HX1 := Lib.hid hx1
  have HX2 := Lib.hid hx2
  clear hx1 hx2
  go_enter Try.func119, Try.ntmps119
  go_wp2_with fail
  go_loop [14] (fun ii => ∃ i : Nat, i ≤ g.vals.length ∧ ii = .int .i64 i ∧ (g.vals.take i).all (fun v => wi v 0 2) = true) (fun ii => g.vals.length - (intOf ii).toNat)
  case atStart => exact ⟨0, Nat.zero_le _, rfl, rfl⟩
  case round =>
    obtain ⟨i, hi, rfl, hall⟩ := hrel
    have HA := Lib.hid hall
    clear hall
    by_cases hlt : i < g.vals.length
    · have hxi : g.vals[i]? = some g.vals[i] := List.getElem?_eq_getElem hlt
      obtain ⟨b, o, rfl, -, hb1, hc⟩ := HX1.out i _ hxi
      generalize g.vals[i] = x at hc hxi
      have c0 := hc 0 _ rfl
      simp only [Nat.mul_one, Nat.add_zero] at c0
      have HX := Lib.hid hxi
      clear hc hxi
      cases g4 : wi x 0 2 with
      | true =>
        have G4 := Lib.hid g4
        go_wp2_with (go_at_call 79; refine (HW.out _ _ _ _).mono ?_; rintro e w' ⟨rfl, rfl⟩)
        go_round
        case rel => exact ⟨i + 1, by omega, by go_num, all_take_succ HX.out HA.out G4.out⟩
        case measure => simp [intOf]; omega
      | false =>
        have hfin : grOk g = false := by
          rw [grOk, all_false_of HX.out g4]
          rfl
        have HF := Lib.hid hfin
        clear hfin
        go_wp2_with (go_at_call 79; refine (HW.out _ _ _ _).mono ?_; rintro e w' ⟨rfl, rfl⟩)
        go_ret
        exact ⟨by rw [HF.out]; rfl, hb0⟩
    · obtain rfl : i = g.vals.length := by omega
      have hallv : g.vals.all (fun v => wi v 0 2) = true := by have := HA.out; rwa [List.take_length] at this
      have HV := Lib.hid hallv
      clear hallv HA
      go_wp2_with fail
      go_loopw [25] (fun ii wr => ∃ (i : Nat) (u : World), i ≤ g.edges.length ∧ ii = .int .i64 i ∧ (List.range i).all (edAt g.vals.length g.edges) = true ∧ wr = ext (w.alloc (.cells #[.slice A1 g.vals.length c1, .slice A2 g.edges.length c2] 48)) u) (fun ii _ => g.edges.length - (intOf ii).toNat)
      case atStart => exact ⟨0, _, Nat.zero_le _, rfl, rfl, ext_self _⟩
      case round =>
        obtain ⟨i, u, hi, rfl, hall, rfl⟩ := hrel
        have HA := Lib.hid hall
        clear hall
        by_cases hlt : i < g.edges.length
        · have hxi : g.edges[i]? = some g.edges[i] := List.getElem?_eq_getElem hlt
          obtain ⟨b, o', rfl, -, hb1, hc⟩ := HX2.out i _ hxi
          generalize g.edges[i] = x at hc hxi
          have c0 := hc 0 _ rfl
          have c1' := hc 1 _ rfl
          have c2' := hc 2 _ rfl
          have c3 := hc 3 _ rfl
          simp only [Nat.add_zero] at c0
          have HX := Lib.hid hxi
          have hlen : g.vals.length ≤ 9223372036854775807 := by omega
          clear hc hxi
          have hgr : grOk g = ((List.range g.edges.length).all (edAt g.vals.length g.edges) && wi g.vals.length 1 5 && decide (g.edges.length ≤ 12)) := by
            rw [grOk, HV.out]; rfl
          have HGR := Lib.hid hgr
          clear hgr
          cases g4 : edOk g.vals.length x with
          | false =>
            have hfin : grOk g = false := by
              rw [HGR.out, range_all_false hlt (by rw [edAt, HX.out]; simp [g4])]
              rfl
            have HF := Lib.hid hfin
            clear hfin
            go_wp2_with fail
            refine wp_region_ext_lit (by kernel_rfl) (by kernel_rfl) ?_
            repeat (go_big_quiet_step ((go_at_call 153; exact Calls.ext_of (edgeOk_any x g.vals.length _ hlen))))
            refine wpQuiet_nil ?_
            intro _ hw'
            obtain ⟨u2, hw''⟩ := hw'
            subst hw''
            go_wp2_with fail
            go_ret
            exact ⟨by rw [HF.out]; rfl, below_trans hb0 (below_trans (ext_below _ _) (below_trans ((Below.refl _ _).alloc (Nat.le_refl _) _) (ext_below _ _)))⟩
          | true =>
            have G4 := Lib.hid g4
            have hbx : ∀ o u2, ∃ z, ext ((ext (w.alloc (.cells #[.slice A1 g.vals.length c1, .slice (some ⟨b, o', none⟩) g.edges.length c2] 48)) u).alloc o) u2 = ext (w.alloc (.cells #[.slice A1 g.vals.length c1, .slice (some ⟨b, o', none⟩) g.edges.length c2] 48)) z :=
              fun o u2 => ext_of (below_trans (ext_below _ _) (below_trans ((Below.refl _ _).alloc (Nat.le_refl _) _) (ext_below _ _)))
            by_cases hi0 : i = 0
            · subst hi0
              have hat : edAt g.vals.length g.edges 0 = true := by rw [edAt, HX.out]; simp [G4.out]
              have HAT := Lib.hid hat
              clear hat
              simp only [Nat.zero_mul, Nat.add_zero, Nat.zero_add] at c0 c1' c2' c3
              go_wp2_with fail
              refine wp_region_ext_lit (by kernel_rfl) (by kernel_rfl) ?_
              repeat (go_big_quiet_step ((go_at_call 153; exact Calls.ext_of (edgeOk_any x g.vals.length _ hlen))))
              refine wpQuiet_nil ?_
              intro _ hw'
              obtain ⟨u2, hw''⟩ := hw'
              subst hw''
              go_wp2_with fail
              go_roundw
              case rel =>
                obtain ⟨z, hz⟩ := hbx _ u2
                exact ⟨1, z, by omega, by go_num, range_all_succ HA.out HAT.out, hz⟩
              case measure => simp [intOf]; omega
            · have hi1 : 0 < i := by omega
              have hxj : g.edges[i - 1]? = some g.edges[i - 1] := List.getElem?_eq_getElem (by omega)
              obtain ⟨b9, o9, ho9, -, -, hcj⟩ := HX2.out (i - 1) _ hxj
              obtain ⟨rfl, rfl⟩ : b = b9 ∧ o' = o9 := by injection ho9 with h1; injection h1 with h1 h2; exact ⟨h1, h2⟩
              generalize g.edges[i - 1] = p at hcj hxj
              have hb1' : b < w.heap.size + 1 := by omega
              have p0 := hcj 0 _ rfl
              simp only [Nat.add_zero] at p0
              have HXJ := Lib.hid hxj
              have hi00 : ((i : Int) > 0) := by omega
              clear hcj hxj ho9
              by_cases hlt2 : p.1 < x.1
              · have hat : edAt g.vals.length g.edges i = true := by rw [edAt, HX.out]; simp [G4.out, HXJ.out, hlt2]
                have hge : decide (p.1 ≥ x.1) = false := by simp; omega
                have HAT := Lib.hid hat
                clear hat
                go_wp2_with fail
                have q1 : IntKind.i64.wrap ((i : Int) - 1) = (i : Int) - 1 := IntWalk.i64_in _ (by omega)
                have q2 : 0 ≤ (i : Int) - 1 := by omega
                have q3 : (i : Int) - 1 < (g.edges.length : Int) := by omega
                have q4 : ((i : Int) - 1).toNat = i - 1 := by omega
                refine wp_region_ext_lit (by kernel_rfl) (by kernel_rfl) ?_
                repeat (go_big_quiet_step ((go_at_call 153; exact Calls.ext_of (edgeOk_any x g.vals.length _ hlen))))
                refine wpQuiet_nil ?_
                intro _ hw'
                obtain ⟨u2, hw''⟩ := hw'
                subst hw''
                clear q1 q2 q3 q4
                go_wp2_with fail
                go_roundw
                case rel =>
                  obtain ⟨z, hz⟩ := hbx _ u2
                  exact ⟨i + 1, z, by omega, by go_num, range_all_succ HA.out HAT.out, hz⟩
                case measure => simp [intOf]; omega
              · have hfin : grOk g = false := by
                  rw [HGR.out, range_all_false hlt (by rw [edAt, HX.out]; simp [G4.out, HXJ.out, hi0]; omega)]
                  rfl
                have hge : decide (p.1 ≥ x.1) = true := by simp; omega
                have HF := Lib.hid hfin
                clear hfin
                go_wp2_with fail
                have q1 : IntKind.i64.wrap ((i : Int) - 1) = (i : Int) - 1 := IntWalk.i64_in _ (by omega)
                have q2 : 0 ≤ (i : Int) - 1 := by omega
                have q3 : (i : Int) - 1 < (g.edges.length : Int) := by omega
                have q4 : ((i : Int) - 1).toNat = i - 1 := by omega
                refine wp_region_ext_lit (by kernel_rfl) (by kernel_rfl) ?_
                repeat (go_big_quiet_step ((go_at_call 153; exact Calls.ext_of (edgeOk_any x g.vals.length _ hlen))))
                refine wpQuiet_nil ?_
                intro _ hw'
                obtain ⟨u2, hw''⟩ := hw'
                subst hw''
                clear q1 q2 q3 q4
                go_wp2_with fail
                go_ret
                exact ⟨by rw [HF.out]; rfl, below_trans hb0 (below_trans (ext_below _ _) (below_trans ((Below.refl _ _).alloc (Nat.le_refl _) _) (ext_below _ _)))⟩
        · obtain rfl : i = g.edges.length := by omega
          have hgr : grOk g = (wi g.vals.length 1 5 && decide (g.edges.length ≤ 12)) := by
            rw [grOk, HV.out, HA.out]; rfl
          have HGR := Lib.hid hgr
          clear hgr HA HV
          cases g5 : wi g.vals.length 1 5 with
          | false =>
            rw [g5] at HGR
            go_wp2_with (go_at_call 79; refine (HW.out _ _ _ _).mono ?_; rintro e w' ⟨rfl, rfl⟩)
            go_ret
            exact ⟨by rw [HGR.out]; rfl, below_trans hb0 (ext_below _ _)⟩
          | true =>
            rw [g5] at HGR
            have HG5 := Lib.hid g5
            by_cases g6 : g.edges.length ≤ 12
            · have g6' : decide ((g.edges.length : Int) ≤ 12) = true := by simp; omega
              have hfin : grOk g = true := by rw [HGR.out]; simp [g6]
              have HF := Lib.hid hfin
              clear hfin HGR
              go_wp2_with (go_at_call 79; refine (HW.out _ _ _ _).mono ?_; rintro e w' ⟨rfl, rfl⟩)
              go_ret
              exact ⟨by rw [HF.out]; rfl, below_trans hb0 (ext_below _ _)⟩
            · have g6' : decide ((g.edges.length : Int) ≤ 12) = false := by simp; omega
              have hfin : grOk g = false := by rw [HGR.out]; simp [g6]
              have HF := Lib.hid hfin
              clear hfin HGR
              go_wp2_with (go_at_call 79; refine (HW.out _ _ _ _).mono ?_; rintro e w' ⟨rfl, rfl⟩)
              go_ret
              exact ⟨by rw [HF.out]; rfl, below_trans hb0 (ext_below _ _)⟩
/-- slices.IndexFunc over edges, at EdgeIndex's closure -/
theorem indexFuncEdge (k0 : Value) (v : Value) (xs : List Ed) (p : Ed → Prop) (w : World) (hv : SlE w cEd 4 v xs)
    (hF : ∀ x ∈ xs, ∀ W : World, Below w.heap.size w W → Calls Try.prog 172 #[.agg #[.int .i64 x.1, .int .i64 x.2.1, .int .i64 x.2.2.1, .int .i64 x.2.2.2], k0] W fun e W' => ∃ b, e = .returned (.bool b) ∧ (b = true ↔ p x) ∧ Below W.heap.size W W') :
    Calls Try.prog 171 #[v, .func (Fn.func 172) #[] #[k0]] w fun e w' => ∃ r : Int, e = .returned (.int .i64 r) ∧ Below w.heap.size w w' ∧
      ((r = -1 ∧ ∀ x ∈ xs, ¬ p x) ∨ ∃ (i : Nat) (x : Ed), r = i ∧ xs[i]? = some x ∧ p x ∧ ∀ y ∈ xs.take i, ¬ p y) := by
  obtain ⟨A, c, rfl, hl, hm, hx⟩ := hv
  unfold maxLen at hm
  have HF := Lib.hid hF
  have HX := Lib.hid hx
  clear hF hx
  go_enter Try.func171, Try.ntmps171
  go_wp2_with fail
  go_loopw [8] (fun ii wr => ∃ (i : Nat) (u : World), i ≤ xs.length ∧ ii = .int .i64 i ∧ (∀ y ∈ xs.take i, ¬ p y) ∧ wr = ext w u) (fun ii _ => xs.length - (intOf ii).toNat)
  case atStart => exact ⟨0, w, Nat.zero_le _, rfl, by simp, ext_self w⟩
  case round =>
    obtain ⟨i, u, hi, rfl, hno, rfl⟩ := hrel
    have HN := Lib.hid hno
    clear hno
    by_cases hlt : i < xs.length
    · have hxi : xs[i]? = some xs[i] := List.getElem?_eq_getElem hlt
      generalize xs[i] = x at hxi
      obtain ⟨b, o, rfl, -, hb, hc⟩ := HX.out i x hxi
      have c0 := hc 0 _ rfl
      have c1' := hc 1 _ rfl
      have c2' := hc 2 _ rfl
      have c3 := hc 3 _ rfl
      simp only [Nat.add_zero] at c0
      have HXI := Lib.hid hxi
      clear hc hxi
      go_wp2_with fail
      refine (HF.out x (List.mem_of_getElem? HXI.out) _ (ext_below w u)).mono ?_
      rintro e w1 ⟨bb, rfl, hbb, hb1⟩
      have HBB := Lib.hid hbb
      clear hbb
      cases bb with
      | true =>
        go_wp2_with fail
        go_ret
        exact ⟨_, rfl, below_trans (ext_below w u) hb1, .inr ⟨i, x, rfl, HXI.out, HBB.out.1 (by first | rfl | trivial), HN.out⟩⟩
      | false =>
        go_wp2_with fail
        go_roundw
        case rel =>
          obtain ⟨z, hz⟩ := ext_of (below_trans (ext_below w u) hb1)
          refine ⟨i + 1, z, by omega, by go_num, fun y hy => ?_, hz⟩
          rw [take_snoc HXI.out] at hy
          rcases List.mem_append.1 hy with hy | hy
          · exact HN.out y hy
          · have : y = x := by simpa using hy
            subst this
            exact fun h => by have := HBB.out.2 h; cases this
        case measure => simp [intOf]; omega
    · obtain rfl : i = xs.length := by omega
      go_wp2_with fail
      go_ret
      exact ⟨_, rfl, ext_below w u, .inl ⟨rfl, fun x hx => HN.out x (by rw [List.take_length]; exact hx)⟩⟩

set_option maxHeartbeats 1000000 in
theorem implEdgeIndex (v : Value) (g : Gr) (id : Int) (w : World) (hv : GrV 0 w.heap.size w v g) :
    Calls Try.prog 166 #[v, .int .i64 id] w fun e w' => e = .returned (.int .i64 (edgeIdx g id)) ∧ Below w.heap.size w w' := by
  obtain ⟨vs, es, rfl, -, hes⟩ := hv
  have hb0 : Below w.heap.size w ((w.alloc (.cells #[vs, es] 48)).alloc (.cells #[.int .i64 id] 3)) := ((Below.refl _ _).alloc (Nat.le_refl _) _).alloc (by simp) _
  have b1 := Blk.new (w.alloc (.cells #[vs, es] 48)) 3 #[.int .i64 id] (w.heap.size + 1) (by simp)
  go_enter Try.func166, Try.ntmps166
  go_wp2_with fail
  refine (indexFuncEdge _ es g.edges (fun e => e.1 = id) _ (SlE.keep hes hb0) (fun x hx W hW => ?_)).mono ?_
  · have b1' := b1.keep hW
    have y0 : W.cell? ⟨w.heap.size + 1, 0, none⟩ = some _ := b1'.cell 0
    have hlt := b1'.lt
    clear hb0 b1 b1' hW
    obtain ⟨x1, x2, x3, x4⟩ := x
    go_enter Try.func172, Try.ntmps172
    go_wp2_with fail
    go_ret
    refine ⟨_, rfl, by simp, (Below.refl _ _).alloc (Nat.le_refl _) _⟩
  · rintro e w1 ⟨r, rfl, hb1, hr⟩
    have hfin : edgeIdx g id = r := by
      rcases hr with ⟨rfl, h⟩ | ⟨i, x, rfl, hx, hp, hno⟩
      · exact edgeIdx_none h
      · exact edgeIdx_some hx hp hno
    subst hfin
    clear hr
    go_wp2_with fail
    go_ret
    exact ⟨rfl, below_trans hb0 hb1⟩
end Go.Proofs.Ytmlfkledhnlkeaa

/- The program's steps of a graph: where they lead from and to, and whether they are allowed. -/
namespace Go.Proofs.Ytmlfkledhnlkeaa
set_option linter.unusedVariables false
set_option linter.unusedSimpArgs false
open Go.ChangeShapes Go.WideShapes Go.ChangeAt Go.RowKit
attribute [local go_sem] ext_cell ext_frozen ext_lt ext_lt1 ext_lt2 ext_lt3 ltn2 ltn3 ltn13 lts1 lts2 lts3

set_option maxHeartbeats 1000000 in
theorem implStepEdge (v : Value) (g : Gr) (s : St) (w : World) (hv : GrV 0 w.heap.size w v g) :
    Calls Try.prog 159 #[v, .agg #[.int .i64 s.1, .bool s.2]] w fun en w' => ∃ e : Ed, en = .returned (.tuple #[.agg #[.int .i64 e.1, .int .i64 e.2.1, .int .i64 e.2.2.1, .int .i64 e.2.2.2], .bool (stepEd g s.1).isSome]) ∧ (∀ e', stepEd g s.1 = some e' → e' = e) ∧ Below w.heap.size w w' := by
  have hv0 := hv
  obtain ⟨vs, es, rfl, hvs, ⟨A2, c2, rfl, hl2, hm2, hx2⟩⟩ := hv
  obtain ⟨A1, n1, c1, rfl⟩ := hvs.shape
  obtain ⟨id, inv⟩ := s
  unfold maxLen at hm2
  have hb0 : Below w.heap.size w (((w.alloc (.cells #[.slice A1 n1 c1, .slice A2 g.edges.length c2] 48)).alloc (.cells #[.int .i64 id, .bool inv] 142)).alloc (.cells #[.int .i64 0, .int .i64 0, .int .i64 0, .int .i64 0] 144)) := (((Below.refl _ _).alloc (Nat.le_refl _) _).alloc (by simp) _).alloc (by simp <;> omega) _
  have hspec := edgeIdx_spec g id
  simp only
  go_enter Try.func159, Try.ntmps159
  have HS := Lib.hid hspec
  clear hspec
  go_wp2_with fail
  refine (implEdgeIndex _ g id _ (hv0.keep hb0)).mono ?_
  rintro e w1 ⟨rfl, hb1⟩
  have b0 := (((Blk.new w _ _ w.heap.size rfl).alloc _).alloc _).keep hb1
  have b2 := (Blk.new ((w.alloc _).alloc _) _ _ (w.heap.size + 1 + 1) (by simp)).keep hb1
  have hb2 := below_trans hb0 hb1
  clear hb0 hb1
  rcases HS.out with ⟨hi, hno⟩ | ⟨i, e, hi, hx, he, hno⟩
  · have hnone := stepEd_none hno
    have HN := Lib.hid hnone
    rw [hi]
    have z0 : w1.cell? ⟨w.heap.size + 1 + 1, 0, none⟩ = some _ := b2.cell 0
    have z1 : w1.cell? ⟨w.heap.size + 1 + 1, 1, none⟩ = some _ := b2.cell 1
    have z2 : w1.cell? ⟨w.heap.size + 1 + 1, 2, none⟩ = some _ := b2.cell 2
    have z3 : w1.cell? ⟨w.heap.size + 1 + 1, 3, none⟩ = some _ := b2.cell 3
    have f0 := b2.frozen 0
    have f1 := b2.frozen 1
    have f2 := b2.frozen 2
    have f3 := b2.frozen 3
    clear hnone hno hi HS b0
    go_wp2_with fail
    refine bodyPost_ret (v := .tuple #[.agg #[.int .i64 0, .int .i64 0, .int .i64 0, .int .i64 0], .bool false]) (by simp [results, Try.results159, go_sem, z0, z1, z2, z3]) rfl ⟨(0, 0, 0, 0), by rw [HN.out]; rfl, (by rw [HN.out]; intro e' he'; cases he'), (((hb2.setCell (p := ⟨w.heap.size + 1 + 1, 0, none⟩) (by simp <;> omega) _).setCell (p := ⟨w.heap.size + 1 + 1, 1, none⟩) (by simp <;> omega) _).setCell (p := ⟨w.heap.size + 1 + 1, 2, none⟩) (by simp <;> omega) _).setCell (p := ⟨w.heap.size + 1 + 1, 3, none⟩) (by simp <;> omega) _⟩
  · rw [hi]
    have x0 : w1.cell? ⟨w.heap.size, 0, none⟩ = some _ := b0.cell 0
    have x1 : w1.cell? ⟨w.heap.size, 1, none⟩ = some _ := b0.cell 1
    have hil : i < g.edges.length := (List.getElem?_eq_some_iff.1 hx).1
    cases hg : grOk g with
    | false =>
      have hnone := stepEd_bad id hg
      have HN := Lib.hid hnone
      clear hnone hno HS hx
      go_wp2_with fail
      refine (implValidGraph _ g _ (hv0.keep hb2)).mono ?_
      rintro en w2 ⟨rfl, hb3⟩
      rw [hg]
      have b2 := b2.keep hb3
      have hb2 := below_trans hb2 hb3
      clear hb3 b0 x0 x1
      have z0 : w2.cell? ⟨w.heap.size + 1 + 1, 0, none⟩ = some _ := b2.cell 0
      have z1 : w2.cell? ⟨w.heap.size + 1 + 1, 1, none⟩ = some _ := b2.cell 1
      have z2 : w2.cell? ⟨w.heap.size + 1 + 1, 2, none⟩ = some _ := b2.cell 2
      have z3 : w2.cell? ⟨w.heap.size + 1 + 1, 3, none⟩ = some _ := b2.cell 3
      have f0 := b2.frozen 0
      have f1 := b2.frozen 1
      have f2 := b2.frozen 2
      have f3 := b2.frozen 3
      go_wp2_with fail
      refine bodyPost_ret (v := .tuple #[.agg #[.int .i64 0, .int .i64 0, .int .i64 0, .int .i64 0], .bool false]) (by simp [results, Try.results159, go_sem, z0, z1, z2, z3]) rfl ⟨(0, 0, 0, 0), by rw [HN.out]; rfl, (by rw [HN.out]; intro e' he'; cases he'), (((hb2.setCell (p := ⟨w.heap.size + 1 + 1, 0, none⟩) (by simp <;> omega) _).setCell (p := ⟨w.heap.size + 1 + 1, 1, none⟩) (by simp <;> omega) _).setCell (p := ⟨w.heap.size + 1 + 1, 2, none⟩) (by simp <;> omega) _).setCell (p := ⟨w.heap.size + 1 + 1, 3, none⟩) (by simp <;> omega) _⟩
    | true =>
      have hsome := stepEd_some hg hx he hno
      have HN := Lib.hid hsome
      obtain ⟨b9, o9, rfl, -, hb9, hc9⟩ := hx2 i e hx
      have d0 := hc9 0 _ rfl
      have d1 := hc9 1 _ rfl
      have d2 := hc9 2 _ rfl
      have d3 := hc9 3 _ rfl
      simp only [Nat.add_zero] at d0
      have HI := Lib.hid hi
      clear hsome hno HS hx hc9 hx2 he hi
      go_wp2_with fail
      refine (implValidGraph _ g _ (hv0.keep hb2)).mono ?_
      rintro en w2 ⟨rfl, hb3⟩
      rw [hg]
      have b2 := b2.keep hb3
      have b0 := b0.keep hb3
      have hb2 := below_trans hb2 hb3
      have d0 := (hb2.cell (p := ⟨b9, o9 + i * 4, none⟩) hb9).trans d0
      have d1 := (hb2.cell (p := ⟨b9, o9 + i * 4 + 1, none⟩) hb9).trans d1
      have d2 := (hb2.cell (p := ⟨b9, o9 + i * 4 + 2, none⟩) hb9).trans d2
      have d3 := (hb2.cell (p := ⟨b9, o9 + i * 4 + 3, none⟩) hb9).trans d3
      clear hb3 x0 x1
      have x1 : w2.cell? ⟨w.heap.size, 1, none⟩ = some _ := b0.cell 1
      have z0 : w2.cell? ⟨w.heap.size + 1 + 1, 0, none⟩ = some _ := b2.cell 0
      have z1 : w2.cell? ⟨w.heap.size + 1 + 1, 1, none⟩ = some _ := b2.cell 1
      have z2 : w2.cell? ⟨w.heap.size + 1 + 1, 2, none⟩ = some _ := b2.cell 2
      have z3 : w2.cell? ⟨w.heap.size + 1 + 1, 3, none⟩ = some _ := b2.cell 3
      have f0 := b2.frozen 0
      have f1 := b2.frozen 1
      have f2 := b2.frozen 2
      have f3 := b2.frozen 3
      go_wp2_with fail
      refine bodyPost_ret (v := .tuple #[.agg #[.int .i64 e.1, .int .i64 e.2.1, .int .i64 e.2.2.1, .int .i64 e.2.2.2], .bool true]) (by simp [results, Try.results159, go_sem, z0, z1, z2, z3]) rfl ⟨e, by rw [HN.out]; rfl, (by rw [HN.out]; intro e' he'; injection he' with he'; exact he'.symm), (((hb2.setCell (p := ⟨w.heap.size + 1 + 1, 0, none⟩) (by simp <;> omega) _).setCell (p := ⟨w.heap.size + 1 + 1, 1, none⟩) (by simp <;> omega) _).setCell (p := ⟨w.heap.size + 1 + 1, 2, none⟩) (by simp <;> omega) _).setCell (p := ⟨w.heap.size + 1 + 1, 3, none⟩) (by simp <;> omega) _⟩
set_option maxHeartbeats 1000000 in
theorem implStepFrom (v : Value) (g : Gr) (s : St) (w : World) (hv : GrV 0 w.heap.size w v g) :
    Calls Try.prog 157 #[v, .agg #[.int .i64 s.1, .bool s.2]] w fun en w' => en = .returned (.int .i64 (stepFrom g s)) ∧ Below w.heap.size w w' := by
  have hv0 := hv
  obtain ⟨A1, n1, c1, A2, n2, c2, rfl⟩ := hv.shape
  clear hv
  obtain ⟨id, inv⟩ := s
  have hb0 : Below w.heap.size w ((w.alloc (.cells #[.slice A1 n1 c1, .slice A2 n2 c2] 48)).alloc (.cells #[.int .i64 id, .bool inv] 142)) := ((Below.refl _ _).alloc (Nat.le_refl _) _).alloc (by simp) _
  have hc := fun W (hW : Below w.heap.size w W) => implStepEdge _ g (id, inv) W (hv0.keep hW)
  simp only at hc ⊢
  have HC := Lib.hid hc
  clear hc
  cases hs : stepEd g id with
  | none =>
    have hres : stepFrom g (id, inv) = -1 := by rw [stepFrom]; simp [hs]
    have HR := Lib.hid hres
    rw [hs] at HC
    clear hres hs
    go_enter Try.func157, Try.ntmps157
    go_wp2_with fail
    refine (HC.out _ hb0).mono ?_
    rintro en w1 ⟨e, rfl, -, hb1⟩
    have hb2 := below_trans hb0 hb1
    clear hb0 hb1
    go_wp2_with fail
    go_ret
    exact ⟨ret_int HR.out.symm, hb2.alloc hb2.size _⟩
  | some e =>
    rw [hs] at HC
    have hres : stepFrom g (id, inv) = if inv then e.2.2.1 else e.2.1 := by rw [stepFrom]; simp [hs]
    have HR := Lib.hid hres
    clear hres hs
    go_enter Try.func157, Try.ntmps157
    go_wp2_with fail
    refine (HC.out _ hb0).mono ?_
    rintro en w1 ⟨e1, rfl, he1, hb1⟩
    obtain rfl := he1 e rfl
    have b1 := (Blk.new (w.alloc _) _ _ (w.heap.size + 1) (by simp)).keep hb1
    have y1 : w1.cell? ⟨w.heap.size + 1, 1, none⟩ = some _ := b1.cell 1
    have hlt := b1.lt
    have hb2 := below_trans hb0 hb1
    clear hb0 hb1 he1 b1
    cases inv with
    | true =>
      go_wp2_with fail
      go_ret
      exact ⟨ret_int HR.out.symm, hb2.alloc hb2.size _⟩
    | false =>
      go_wp2_with fail
      go_ret
      exact ⟨ret_int HR.out.symm, hb2.alloc hb2.size _⟩

set_option maxHeartbeats 1000000 in
theorem implStepTo (v : Value) (g : Gr) (s : St) (w : World) (hv : GrV 0 w.heap.size w v g) :
    Calls Try.prog 158 #[v, .agg #[.int .i64 s.1, .bool s.2]] w fun en w' => en = .returned (.int .i64 (stepTo g s)) ∧ Below w.heap.size w w' := by
  have hv0 := hv
  obtain ⟨A1, n1, c1, A2, n2, c2, rfl⟩ := hv.shape
  clear hv
  obtain ⟨id, inv⟩ := s
  have hb0 : Below w.heap.size w ((w.alloc (.cells #[.slice A1 n1 c1, .slice A2 n2 c2] 48)).alloc (.cells #[.int .i64 id, .bool inv] 142)) := ((Below.refl _ _).alloc (Nat.le_refl _) _).alloc (by simp) _
  simp only
  go_enter Try.func158, Try.ntmps158
  go_wp2_with fail
  refine (implStepFrom _ g (id, !inv) _ (hv0.keep hb0)).mono ?_
  rintro en w1 ⟨rfl, hb1⟩
  go_wp2_with fail
  go_ret
  exact ⟨rfl, below_trans hb0 hb1⟩


theorem getD_eqS {xs : List Int} {i : Nat} {x : Int} (h : xs[i]? = some x) : xs.getD i 0 = x := by rw [List.getD_eq_getElem?_getD, h]; rfl

end Go.Proofs.Ytmlfkledhnlkeaa

/- The program's walks: their nodes, and when they are walks of a graph. -/
namespace Go.Proofs.Ytmlfkledhnlkeaa
set_option linter.unusedVariables false
set_option linter.unusedSimpArgs false
open Go.ChangeShapes Go.WideShapes Go.ChangeAt Go.RowKit
attribute [local go_sem] ext_cell ext_frozen ext_lt ext_lt1 ext_lt2 ext_lt3 ltn2 ltn3 ltn13 lts1 lts2 lts3

theorem row_shape {W : World} {base k n : Nat} {e : TypeId} {v : Value} {cs : List Value} (h : W.ownsRow base e k v n cs) (hn : n ≠ 0) : ∃ g c, v = .slice (some ⟨g, 0, none⟩) n c ∧ base ≤ g ∧ g < W.heap.size ∧ n ≤ c ∧ c ≤ maxLen := by
  have hlt := h.lt
  obtain ⟨hl, hs⟩ := h
  rcases hs with ⟨_, h0⟩ | ⟨g, cap, cur, rfl, hg, hh, hnc, hcm, r⟩
  · exact absurd h0 hn
  · exact ⟨g, cap, rfl, hg, (hlt g rfl).2, hnc, hcm⟩

set_option maxHeartbeats 4000000 in
theorem implNodes (v1 v2 : Value) (g : Gr) (k : Wk) (w : World) (hv1 : GrV 0 w.heap.size w v1 g) (hv2 : WkV 0 w.heap.size w v2 k) :
    Calls Try.prog 135 #[v1, v2] w fun en w' => ∃ v, en = .returned (.tuple #[v, .bool (walkOk g k)]) ∧ Own w.heap.size w'.heap.size w' 3 cI 1 v (nodesOut g k) ∧ Below w.heap.size w w' := by
  have hv0 := hv1
  obtain ⟨vs, es, rfl, ⟨A1, c1, rfl, hl1, hm1, -⟩, hes⟩ := hv1
  obtain ⟨A2, n2, c2, rfl⟩ := hes.shape
  obtain ⟨ss, rfl, ⟨A3, c3, rfl, hl3, hm3, hx3⟩⟩ := hv2
  unfold maxLen at hm1 hm3
  obtain ⟨st, steps⟩ := k
  simp only at *
  have hb0 : Below w.heap.size w ((w.alloc (.cells #[.slice A1 g.vals.length c1, .slice A2 n2 c2] 48)).alloc (.cells #[.int .i64 st, .slice A3 steps.length c3] 64)) := ((Below.refl _ _).alloc (Nat.le_refl _) _).alloc (by simp) _
  have HX3 := Lib.hid hx3
  have hwo : walkOk g (st, steps) = (grOk g && wi st 0 ((g.vals.length : Int) - 1) && decide (steps.length ≤ 60) && (List.range steps.length).all (linkAt g (st, steps))) := rfl
  have HW := Lib.hid hwo
  clear hx3 hes hwo
  have hvg := implValidGraph _ g _ (hv0.keep hb0)
  have HV := Lib.hid hvg
  clear hvg
  go_enter Try.func135, Try.ntmps135
  go_wp2_with fail
  refine HV.out.mono ?_
  rintro e w1 ⟨rfl, hb1⟩
  have b0 := ((Blk.new w _ _ w.heap.size rfl).alloc _).keep hb1
  have b1 := (Blk.new (w.alloc _) _ _ (w.heap.size + 1) (by simp)).keep hb1
  have hb2 := below_trans hb0 hb1
  clear hb0 hb1 HV
  have x0 : w1.cell? ⟨w.heap.size, 0, none⟩ = some _ := b0.cell 0
  have x1 : w1.cell? ⟨w.heap.size, 1, none⟩ = some _ := b0.cell 1
  have y0 : w1.cell? ⟨w.heap.size + 1, 0, none⟩ = some _ := b1.cell 0
  have y1 : w1.cell? ⟨w.heap.size + 1, 1, none⟩ = some _ := b1.cell 1
  have hlt1 := b1.lt
  have HWI := Lib.hid within_any
  cases hg : grOk g with
  | false =>
    have hfin : walkOk g (st, steps) = false := by rw [HW.out, hg]; rfl
    have HF := Lib.hid hfin
    clear HW hfin hg
    go_wp2_with fail
    go_ret2
    exact ⟨_, by rw [HF.out]; rfl, by rw [nodesOut_no HF.out]; exact Own.nil _ _ _ _ _ _, hb2⟩
  | true =>
    have q1 : IntKind.i64.wrap ((g.vals.length : Int) - 1) = (g.vals.length : Int) - 1 := IntWalk.i64_in _ (by omega)
    cases hs : wi st 0 ((g.vals.length : Int) - 1) with
    | false =>
      have hfin : walkOk g (st, steps) = false := by rw [HW.out, hg, hs]; rfl
      have HF := Lib.hid hfin
      clear HW hfin hg
      go_wp2_with (go_at_call 79; refine (HWI.out _ _ _ _).mono ?_; rintro e w' ⟨rfl, rfl⟩)
      go_ret2
      exact ⟨_, by rw [HF.out]; rfl, by rw [nodesOut_no HF.out]; exact Own.nil _ _ _ _ _ _, hb2⟩
    | true =>
      by_cases hlen : steps.length ≤ 60
      · have hlen' : decide ((steps.length : Int) > 60) = false := by simp; omega
        have hfin : walkOk g (st, steps) = (List.range steps.length).all (linkAt g (st, steps)) := by rw [HW.out, hg, hs]; simp [hlen]
        have HF := Lib.hid hfin
        clear HW hfin hg
        go_wp2_with (go_at_call 79; refine (HWI.out _ _ _ _).mono ?_; rintro e w1 ⟨rfl, rfl⟩)
        have HS := Lib.hid hs
        clear hs
        go_loopw [6, 34] (fun out ii wr => ∃ i : Nat, i ≤ steps.length ∧ ii = .int .i64 i ∧ (List.range i).all (linkAt g (st, steps)) = true ∧ wr.ownsRow w1.heap.size 3 1 out ((nodesL g (st, steps)).take (i + 1)).length (((nodesL g (st, steps)).take (i + 1)).flatMap cI) ∧ Below w1.heap.size w1 wr) (fun _ ii _ => steps.length - (intOf ii).toNat)
        case atStart => exact ⟨0, Nat.zero_le _, rfl, rfl, World.ownsRow_lit w1 #[.int .i64 st] 1 (Nat.le_refl _) (by decide) rfl, (Below.refl _ _).alloc (Nat.le_refl _) _⟩
        case round =>
          obtain ⟨i, hi, rfl, hal, hrow, hbel⟩ := hrel
          have HA := Lib.hid hal
          have hbw := below_trans hb2 hbel
          have hml : ((nodesL g (st, steps)).take (i + 1)).length = i + 1 := by rw [List.length_take, nodesL_len]; simp only; omega
          clear hal
          by_cases hlt : i < steps.length
          · have hxs : steps[i]? = some steps[i] := List.getElem?_eq_getElem hlt
            generalize steps[i] = s at hxs
            obtain ⟨sid, sinv⟩ := s
            obtain ⟨b, o, rfl, -, hb, hc⟩ := HX3.out i _ hxs
            have d0 := hc 0 _ rfl
            have d1 := hc 1 _ rfl
            simp only [Nat.add_zero] at d0
            have d0 := (hbw.cell (p := ⟨_, _, none⟩) hb).trans d0
            have d1 := (hbw.cell (p := ⟨_, _, none⟩) hb).trans d1
            obtain ⟨x, hxl⟩ : ∃ x, (nodesL g (st, steps))[i]? = some x := ⟨_, List.getElem?_eq_getElem (by rw [nodesL_len]; simp only; omega)⟩
            obtain ⟨gb, cp, hv, hg1, hg2, hnc, hcm⟩ := row_shape hrow (by omega)
            obtain ⟨m, hm⟩ : ∃ m, m = i + 1 := ⟨_, rfl⟩
            rw [hml, ← hm] at hv
            subst hv
            have hrm := hrow
            rw [show ((nodesL g (st, steps)).take (i + 1)).length = m by rw [hml, hm]] at hrm
            have c0 := (World.ownsRow.cellAt hrm i (by omega)).trans (by have := flat_at cI_len (xs := (nodesL g (st, steps)).take (i + 1)) (i := i) (x := x) (by rw [List.getElem?_take]; simp [hxl]) 0 _ rfl; simpa using this)
            clear hrm
            have hf := fun W (hW : Below w.heap.size w W) => implStepFrom _ g (sid, sinv) W (hv0.keep hW)
            have ht := fun W (hW : Below w.heap.size w W) => implStepTo _ g (sid, sinv) W (hv0.keep hW)
            have hlk := linkAt_eq (k := (st, steps)) hxs hxl
            have HLK := Lib.hid hlk
            have HFF := Lib.hid hf
            have HTT := Lib.hid ht
            have HXS := Lib.hid hxs
            have HROW := Lib.hid hrow
            have hbx := fun (X : Obj) u => below_trans (hbw.alloc hbw.size X) (ext_below (wr.alloc X) u)
            have x0 := (hbel.cell (p := ⟨_, _, none⟩) (by simp only; omega)).trans x0
            have x1 := (hbel.cell (p := ⟨_, _, none⟩) (by simp only; omega)).trans x1
            have hs1 := hbel.size
            have q2 : IntKind.i64.wrap ((m : Int) - 1) = (i : Int) := by rw [IntWalk.i64_in _ (by omega)]; omega
            have q3 : (i : Int) < (m : Int) := by omega
            have HM := Lib.hid hm
            clear hlk hf ht hxs hrow hml hm hxl hc q1 hnc hcm
            generalize stepFrom g (sid, sinv) = y at HLK HFF
            have k0 : w.heap.size < wr.heap.size := by omega
            by_cases hyx : y = x
            · have hq : (y != x) = false := by simp [hyx]
              have HYX := Lib.hid hyx
              clear hyx
              go_wp2_with fail
              refine wp_region_ext_lit (by kernel_rfl) (by kernel_rfl) ?_
              repeat (go_big_quiet_step ((go_at_call 157; exact Calls.ext_of (HFF.out _ (hbx _ _)))))
              refine wpQuiet_nil ?_
              intro _ hw'
              obtain ⟨u2, hw''⟩ := hw'
              subst hw''
              go_wp2_with fail
              refine (HTT.out _ (hbx _ _)).mono ?_
              rintro e w3 ⟨rfl, hb3⟩
              have hw3 := below_trans (Below.refl wr.heap.size wr |>.alloc (Nat.le_refl _) _) (below_trans (ext_below _ u2) hb3)
              have hrow3 := ownsRow_below HROW.out hw3 (Nat.le_refl _)
              have hs3 := Nat.le_trans hs1 hw3.size
              have hbel3 := below_trans hbel hw3
              have htl : ((nodesL g (st, steps)).take (i + 1)).length ≤ 61 := by rw [List.length_take]; omega
              clear hb3 hbx
              go_wp2_with (at_builtin; (refine wpList_append1 cI elInt rfl _ _ rfl w1.heap.size (.slice (some ⟨gb, 0, none⟩) m cp) ((nodesL g (st, steps)).take (i + 1)) (stepTo g (sid, sinv)) _ 1 _ (by rfl) hrow3 (by rfl) rfl rfl rfl (cI_one _) (by omega) (by omega) hs3 ?_); rw [← nodesL_succ HXS.out]; intro v' w4 hrow' hb4 _ _)
              go_roundw
              case rel => exact ⟨i + 1, by omega, by go_num, range_all_succ HA.out (by rw [HLK.out, HYX.out]; simp), hrow', hbel3.trans hb4⟩
              case measure => simp [intOf]; omega
            · have hq : (y != x) = true := by simp [hyx]
              have HYX := Lib.hid hyx
              clear hyx
              go_wp2_with fail
              refine wp_region_ext_lit (by kernel_rfl) (by kernel_rfl) ?_
              repeat (go_big_quiet_step ((go_at_call 157; exact Calls.ext_of (HFF.out _ (hbx _ _)))))
              refine wpQuiet_nil ?_
              intro _ hw'
              obtain ⟨u2, hw''⟩ := hw'
              subst hw''
              have hfin : walkOk g (st, steps) = false := by rw [HF.out]; exact range_all_false hlt (by rw [HLK.out]; simpa using HYX.out)
              have HFI := Lib.hid hfin
              clear hfin
              go_wp2_with fail
              go_ret2
              exact ⟨_, by rw [HFI.out]; rfl, by rw [nodesOut_no HFI.out]; exact Own.nil _ _ _ _ _ _, hbx _ _⟩
          · obtain rfl : i = steps.length := by omega
            have hfin : walkOk g (st, steps) = true := by rw [HF.out, HA.out]
            have HFF := Lib.hid hfin
            have htk : (nodesL g (st, steps)).take (steps.length + 1) = nodesL g (st, steps) := List.take_of_length_le (by rw [nodesL_len]; simp)
            rw [htk] at hrow
            have HROW := Lib.hid hrow
            clear hfin HF HA htk hml hrow
            go_wp2_with fail
            go_ret2
            exact ⟨_, by rw [HFF.out]; rfl, by rw [nodesOut_yes HFF.out]; exact (Own.of_row HROW.out rfl rfl).mono hb2.size (Nat.le_refl _), hbw⟩
      · have hlen' : decide ((steps.length : Int) > 60) = true := by simp; omega
        have hfin : walkOk g (st, steps) = false := by rw [HW.out]; simp [hlen]
        have HF := Lib.hid hfin
        clear HW hfin hg
        go_wp2_with (go_at_call 79; refine (HWI.out _ _ _ _).mono ?_; rintro e w' ⟨rfl, rfl⟩)
        go_ret2
        exact ⟨_, by rw [HF.out]; rfl, by rw [nodesOut_no HF.out]; exact Own.nil _ _ _ _ _ _, hb2⟩
end Go.Proofs.Ytmlfkledhnlkeaa

