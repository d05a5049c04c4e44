/- Plain: sets of states as numbers, the steps of the product of a graph and an automaton, distances by breadth first search. -/
import Derived.Test.YtmdgloeejjepmaaMath
namespace Go.Proofs.Ytmdgloeejjepmaa
set_option linter.unusedVariables false
set_option linter.unusedSimpArgs false

/-! ### Numbers as sets -/
def mem (n m : Nat) : List Nat := (List.range n).filter m.testBit
theorem mem_zero (m : Nat) : mem 0 m = [] := rfl
theorem mem_succ (n m : Nat) : mem (n + 1) m = mem n m ++ (if m.testBit n = true then [n] else []) := by
  unfold mem
  rw [List.range_succ, List.filter_append]
  congr 1
  cases h : m.testBit n <;> simp [h]
theorem mem_yes {n m : Nat} (h : m.testBit n = true) : mem (n + 1) m = mem n m ++ [n] := by rw [mem_succ, if_pos h]
theorem mem_no {n m : Nat} (h : m.testBit n = false) : mem (n + 1) m = mem n m := by rw [mem_succ, if_neg (by simp [h]), List.append_nil]
theorem mem_mem {n m t : Nat} : t ∈ mem n m ↔ t < n ∧ m.testBit t = true := by simp [mem]
theorem mem_stop {i n m : Nat} (h : m < 2 ^ i) (hn : i ≤ n) : mem n m = mem i m := by
  induction n with
  | zero =>
    have : i = 0 := by omega
    subst this; rfl
  | succ n ih =>
    by_cases h1 : i ≤ n
    · rw [mem_no (Nat.testBit_lt_two_pow (Nat.lt_of_lt_of_le h (Nat.pow_le_pow_right (by omega) h1))), ih h1]
    · have : i = n + 1 := by omega
      subst this; rfl
theorem mem_len (n m : Nat) : (mem n m).length ≤ n := by
  have := List.length_filter_le m.testBit (List.range n)
  rw [List.length_range] at this
  exact this
/-- {s}, and m with s put in: plain names, so that a walk leaves them alone -/
def bit (s : Nat) : Nat := 2 ^ s
def ins (m s : Nat) : Nat := m ||| 2 ^ s
theorem bit_test (s t : Nat) : (bit s).testBit t = decide (s = t) := by rw [bit, Nat.testBit_two_pow]
theorem ins_test (m s t : Nat) : (ins m s).testBit t = (m.testBit t || decide (s = t)) := by rw [ins, Nat.testBit_or, Nat.testBit_two_pow]
theorem ins_zero (s : Nat) : ins 0 s = bit s := by simp [ins, bit]
theorem bit_lt {n s : Nat} (h : s < n) : bit s < 2 ^ n := Nat.pow_lt_pow_right (by omega) h
theorem mem_pow_ge {n s : Nat} (h : n ≤ s) : mem n (bit s) = [] := by
  induction n with
  | zero => rfl
  | succ n ih => rw [mem_no (by rw [bit_test]; simp; omega), ih (by omega)]
theorem mem_pow {n s : Nat} (h : s < n) : mem n (bit s) = [s] := by
  induction n with
  | zero => omega
  | succ n ih =>
    by_cases hs : s = n
    · subst hs
      rw [mem_yes (by rw [bit_test]; simp), mem_pow_ge (Nat.le_refl _)]; rfl
    · rw [mem_no (by rw [bit_test]; simp; omega), ih (by omega)]
theorem mem_or_ge {n m t : Nat} (h : n ≤ t) : mem n (ins m t) = mem n m := by
  unfold mem
  apply List.filter_congr
  intro x hx
  have := List.mem_range.1 hx
  rw [ins_test]
  have h2 : ¬ t = x := by omega
  simp [h2]
theorem cnt_or {n m t : Nat} (ht : t < n) (hm : m.testBit t = false) : (mem n (ins m t)).length = (mem n m).length + 1 := by
  induction n with
  | zero => omega
  | succ n ih =>
    by_cases h : t = n
    · subst h
      rw [mem_yes (by rw [ins_test]; simp), mem_no hm, mem_or_ge (Nat.le_refl _)]
      simp
    · have := ih (by omega)
      have hb : (ins m t).testBit n = m.testBit n := by
        rw [ins_test]
        simp [h]
      cases hn : m.testBit n with
      | false => rw [mem_no (by rw [hb, hn]), mem_no hn, this]
      | true => rw [mem_yes (by rw [hb, hn]), mem_yes hn, List.length_append, List.length_append, this]; rfl
theorem ins_lt {n m t : Nat} (hm : m < 2 ^ n) (ht : t < n) : ins m t < 2 ^ n := Nat.or_lt_two_pow hm (Nat.pow_lt_pow_right (by omega) ht)
theorem foldl_inv {α β : Type} {P : α → Prop} {f : α → β → α} (h : ∀ m x, P m → P (f m x)) : ∀ (l : List β) (m : α), P m → P (l.foldl f m)
  | [], _, hm => hm
  | x :: l, m, hm => foldl_inv h l (f m x) (h m x hm)

theorem foldl_take {α β : Type} {f : α → β → α} {xs : List β} {i : Nat} {x : β} (h : xs[i]? = some x) (z : α) : (xs.take (i + 1)).foldl f z = f ((xs.take i).foldl f z) x := by
  rw [take_snoc h, List.foldl_append]; rfl

/-! ### Steps of the automaton -/
def mv (a : Au) (s l : Nat) : Int := (a.next.getD s []).getD l (-1)
theorem mv_of {a : Au} {s l : Nat} {row : List Int} {t : Int} (hr : a.next[s]? = some row) (ht : row[l]? = some t) : mv a s l = t := by
  simp [mv, List.getD, hr, ht]
theorem mv_lt {a : Au} (h : auOk a = true) (s l : Nat) : -1 ≤ mv a s l ∧ mv a s l ≤ (a.accept.length : Int) - 1 := by
  obtain ⟨⟨h1, _⟩, _, _, hr⟩ := auOk_iff.1 h
  unfold mv
  cases hs : a.next[s]? with
  | none => simp [List.getD, hs]; omega
  | some row =>
    obtain ⟨hrow, _⟩ := rowOk_iff.1 (hr row (List.mem_of_getElem? hs))
    cases ht : row[l]? with
    | none => simp [List.getD, hs, ht]; omega
    | some t =>
      simp only [List.getD, hs, ht, Option.getD_some]
      exact hrow t (List.mem_of_getElem? ht)
/-- what the loop 'while s is a state that is not in the set' gathers -/
def clsF (a : Au) (l : Nat) : Nat → Int → Nat → Nat
  | 0, _, m => m
  | f + 1, s, m => if 0 ≤ s ∧ m.testBit s.toNat = false then clsF a l f (mv a s.toNat l) (ins m s.toNat) else m
def cls (a : Au) (v s : Nat) : Nat := clsF a (6 + v) 13 s 0
theorem clsF_lt {a : Au} (h : auOk a = true) (l : Nat) : ∀ (f : Nat) (s : Int) (m : Nat), s < (a.accept.length : Int) → m < 2 ^ a.accept.length → clsF a l f s m < 2 ^ a.accept.length := by
  intro f
  induction f with
  | zero => intro s m _ hm; exact hm
  | succ f ih =>
    intro s m hs hm
    rw [clsF]
    split
    · rename_i hc
      exact ih _ _ (by have := (mv_lt h s.toNat l).2; omega) (ins_lt hm (by omega))
    · exact hm
theorem cls_lt {a : Au} (h : auOk a = true) (v s : Nat) (hs : s < a.accept.length) : cls a v s < 2 ^ a.accept.length := clsF_lt h _ _ _ _ (by omega) (Nat.two_pow_pos _)
theorem clsF_stop {a : Au} {l : Nat} {f : Nat} {s : Int} {m : Nat} (h : s < 0 ∨ m.testBit s.toNat = true) : clsF a l f s m = m := by
  cases f with
  | zero => rfl
  | succ f =>
    rw [clsF, if_neg]
    rintro ⟨h1, h2⟩
    rcases h with h | h
    · omega
    · rw [h] at h2; cases h2
theorem clsF_go {a : Au} {l : Nat} {f s : Nat} {m : Nat} (h : m.testBit s = false) : clsF a l (f + 1) s m = clsF a l f (mv a s l) (ins m s) := by
  rw [clsF, if_pos ⟨by omega, by simpa using h⟩]
  simp

def aft1 (a : Au) (l : Nat) (m t : Nat) : Nat := if 0 ≤ mv a t l then ins m (mv a t l).toNat else m
def aftS (a : Au) (v l : Nat) (m s : Nat) : Nat := (mem 12 (cls a v s)).foldl (aft1 a l) m
def aft (a : Au) (set v l : Nat) : Nat := (mem 12 set).foldl (aftS a v l) 0
theorem aft1_lt {a : Au} (h : auOk a = true) (l m t : Nat) (hm : m < 2 ^ a.accept.length) : aft1 a l m t < 2 ^ a.accept.length := by
  unfold aft1
  split
  · have := (mv_lt h t l).2
    exact ins_lt hm (by omega)
  · exact hm
theorem aftS_lt {a : Au} (h : auOk a = true) (v l m s : Nat) (hm : m < 2 ^ a.accept.length) : aftS a v l m s < 2 ^ a.accept.length :=
  foldl_inv (P := fun m => m < 2 ^ a.accept.length) (fun m x hm => aft1_lt h l m x hm) _ _ hm
theorem aft_lt {a : Au} (h : auOk a = true) (set v l : Nat) : aft a set v l < 2 ^ a.accept.length :=
  foldl_inv (P := fun m => m < 2 ^ a.accept.length) (fun m x hm => aftS_lt h v l m x hm) _ _ (Nat.two_pow_pos _)
theorem lt12 {a : Au} (h : auOk a = true) {m : Nat} (hm : m < 2 ^ a.accept.length) : m < 4096 := by
  have h1 : a.accept.length ≤ 12 := (auOk_iff.1 h).1.2
  exact Nat.lt_of_lt_of_le hm (Nat.pow_le_pow_right (by omega) h1 : 2 ^ a.accept.length ≤ 2 ^ 12)
theorem mem12 {a : Au} (h : auOk a = true) {m : Nat} (hm : m < 2 ^ a.accept.length) : mem 12 m = mem a.accept.length m := mem_stop hm (auOk_iff.1 h).1.2
theorem aft_one {a : Au} (v l : Nat) {s : Nat} (hs : s < 12) : aft a (bit s) v l = (mem 12 (cls a v s)).foldl (aft1 a l) 0 := by
  rw [aft, mem_pow hs]; rfl

def accC (a : Au) (v s : Nat) : Bool := (mem 12 (cls a v s)).any fun t => a.accept.getD t false
def acc (a : Au) (set v : Nat) : Bool := (mem 12 set).any (accC a v)
theorem acc_one (a : Au) (v : Nat) {s : Nat} (hs : s < 12) : acc a (bit s) v = accC a v s := by rw [acc, mem_pow hs]; simp

/-! ### Steps of the graph -/
abbrev Arc := St × Int × Int
def arcE (x : Int) (e : Ed) : List Arc := (if e.2.1 = x then [((e.1, false), 2 * e.2.2.2, e.2.2.1)] else []) ++ (if e.2.2.1 = x then [((e.1, true), 2 * e.2.2.2 + 1, e.2.1)] else [])
def arcsOf (g : Gr) (x : Int) : List Arc := g.edges.flatMap (arcE x)
theorem flat_take {α β : Type} {f : α → List β} {xs : List α} {i : Nat} {x : α} (h : xs[i]? = some x) : (xs.take (i + 1)).flatMap f = (xs.take i).flatMap f ++ f x := by
  rw [take_snoc h, List.flatMap_append]; simp
theorem mem_arcE {x : Int} {e : Ed} {y : Arc} : y ∈ arcE x e ↔ (e.2.1 = x ∧ y = ((e.1, false), 2 * e.2.2.2, e.2.2.1)) ∨ (e.2.2.1 = x ∧ y = ((e.1, true), 2 * e.2.2.2 + 1, e.2.1)) := by
  unfold arcE
  rw [List.mem_append]
  by_cases h1 : e.2.1 = x <;> by_cases h2 : e.2.2.1 = x <;> simp [h1, h2]
theorem ids_lt {g : Gr} (hg : GrOk g) : ∀ (k i : Nat) (p e : Ed), g.edges[i]? = some p → g.edges[i + 1 + k]? = some e → p.1 < e.1 := by
  intro k
  induction k with
  | zero => intro i p e hp he; exact hg.asc i p e hp he
  | succ k ih =>
    intro i p e hp he
    have hlt := (List.getElem?_eq_some_iff.1 he).1
    have hq : g.edges[i + 1 + k]? = some g.edges[i + 1 + k] := List.getElem?_eq_getElem (by omega)
    exact Int.lt_trans (ih i p _ hp hq) (hg.asc _ _ _ hq he)
theorem edgeIdx_at {g : Gr} (hg : GrOk g) {i : Nat} {e : Ed} (he : g.edges[i]? = some e) : edgeIdx g e.1 = i := by
  refine edgeIdx_some he rfl fun y hy hye => ?_
  obtain ⟨j, hj, hjy⟩ := List.getElem_of_mem hy
  rw [List.length_take] at hj
  rw [List.getElem_take] at hjy
  have hj' : g.edges[j]? = some y := by rw [← hjy]; exact List.getElem?_eq_getElem (by omega)
  have := ids_lt hg (i - j - 1) j y e hj' (by rw [show j + 1 + (i - j - 1) = i by omega]; exact he)
  omega
def arcLetter (b : Bool) (e : Ed) : Int := if b then 2 * e.2.2.2 + 1 else 2 * e.2.2.2
def arcTo (b : Bool) (e : Ed) : Int := if b then e.2.1 else e.2.2.1
theorem arc_edge {g : Gr} (hg : GrOk g) {x : Int} {y : Arc} (hy : y ∈ arcsOf g x) :
    ∃ (i : Nat) (e : Ed), edgeIdx g y.1.1 = i ∧ g.edges[i]? = some e ∧ y.2.1 = arcLetter y.1.2 e ∧ y.2.2 = arcTo y.1.2 e ∧ e.1 = y.1.1 ∧ e ∈ g.edges := by
  obtain ⟨e, he, hye⟩ := List.mem_flatMap.1 hy
  obtain ⟨i, hi, hie⟩ := List.getElem_of_mem he
  have hi' : g.edges[i]? = some e := by rw [← hie]; exact List.getElem?_eq_getElem hi
  have hx := edgeIdx_at hg hi'
  rcases mem_arcE.1 hye with ⟨_, rfl⟩ | ⟨_, rfl⟩
  · exact ⟨i, e, hx, hi', rfl, rfl, rfl, he⟩
  · exact ⟨i, e, hx, hi', rfl, rfl, rfl, he⟩
theorem arc_range {g : Gr} (hg : GrOk g) {x : Int} {y : Arc} (hy : y ∈ arcsOf g x) : (0 ≤ y.2.1 ∧ y.2.1 ≤ 5) ∧ 0 ≤ y.2.2 ∧ y.2.2 ≤ (g.vals.length : Int) - 1 := by
  obtain ⟨i, e, _, _, h1, h2, _, he⟩ := arc_edge hg hy
  obtain ⟨_, h3, h4, h5⟩ := hg.edges e he
  rw [h1, h2]
  unfold arcLetter arcTo
  split <;> omega
theorem arcE_len (x : Int) (e : Ed) : (arcE x e).length ≤ 2 := by
  unfold arcE
  rw [List.length_append]
  split <;> split <;> simp
theorem flat_len {α β : Type} {f : α → List β} {k : Nat} (h : ∀ x, (f x).length ≤ k) : ∀ xs : List α, (xs.flatMap f).length ≤ xs.length * k
  | [] => by simp
  | x :: xs => by
    have := flat_len h xs
    rw [List.flatMap_cons, List.length_append, List.length_cons, Nat.succ_mul]
    have := h x
    omega
theorem arcs_len {g : Gr} (hg : GrOk g) (x : Int) : (arcsOf g x).length ≤ 24 := by
  have := flat_len (arcE_len x) g.edges
  have := hg.e12
  unfold arcsOf
  omega

/-! ### Vertices: node * n + state -/
def valAt (g : Gr) (x : Nat) : Nat := (g.vals.getD x 0).toNat
theorem valAt_of {g : Gr} {x : Nat} {v : Int} (h : g.vals[x]? = some v) : valAt g x = v.toNat := by simp [valAt, List.getD, h]
theorem valAt_lt {g : Gr} (hg : GrOk g) (x : Nat) : valAt g x ≤ 2 := by
  unfold valAt
  cases h : g.vals[x]? with
  | none => simp [List.getD, h]
  | some v =>
    have := hg.vals v (List.mem_of_getElem? h)
    simp only [List.getD, h, Option.getD_some]
    omega
/-- the vertices behind vertex (x, s) by one arc -/
def nextA (g : Gr) (a : Au) (x s : Nat) (y : Arc) : List Nat := (mem 12 (aft a (bit s) (valAt g x) y.2.1.toNat)).map fun t => y.2.2.toNat * a.accept.length + t
def nextV (g : Gr) (a : Au) (x s : Nat) : List Nat := (arcsOf g (x : Int)).flatMap (nextA g a x s)
def nextI (g : Gr) (a : Au) (i : Nat) : List Nat := nextV g a (i / a.accept.length) (i % a.accept.length)
theorem nextV_lt {g : Gr} {a : Au} (hg : GrOk g) (ha : auOk a = true) {x s k : Nat} (h : k ∈ nextV g a x s) : k < g.vals.length * a.accept.length := by
  obtain ⟨y, hy, hk⟩ := List.mem_flatMap.1 h
  obtain ⟨t, ht, rfl⟩ := List.mem_map.1 hk
  have h1 := (arc_range hg hy).2
  have h2 := aft_lt ha (bit s) (valAt g x) y.2.1.toNat
  rw [mem12 ha h2, mem_mem] at ht
  have h3 : y.2.2.toNat + 1 ≤ g.vals.length := by omega
  have h4 := Nat.mul_le_mul_right a.accept.length h3
  rw [Nat.succ_mul] at h4
  omega
theorem nextV_len {g : Gr} {a : Au} (hg : GrOk g) (x s : Nat) : (nextV g a x s).length ≤ 288 := by
  have h1 : ∀ y, (nextA g a x s y).length ≤ 12 := fun y => by rw [nextA, List.length_map]; exact mem_len _ _
  have h2 := flat_len h1 (arcsOf g (x : Int))
  have h3 := arcs_len hg (x : Int)
  unfold nextV
  omega

/-! ### Breadth first search -/
def relax (d : Int) : List Nat → List Int → List Nat → List Int × List Nat
  | [], D, q => (D, q)
  | k :: l, D, q => if D.getD k 0 < 0 then relax d l (D.set k d) (q ++ [k]) else relax d l D q
def bfs (next : Nat → List Nat) : Nat → List Int → List Nat → List Int
  | 0, D, _ => D
  | _ + 1, D, [] => D
  | f + 1, D, h :: q => bfs next f (relax (D.getD h 0 + 1) (next h) D q).1 (relax (D.getD h 0 + 1) (next h) D q).2
def negs (D : List Int) : Nat := D.countP (fun x => decide (x < 0))
theorem negs_set {D : List Int} {k : Nat} {d : Int} (hk : k < D.length) (hn : D.getD k 0 < 0) (hd : 0 ≤ d) : negs (D.set k d) + 1 = negs D := by
  induction D generalizing k with
  | nil => simp at hk
  | cons x D ih =>
    cases k with
    | zero =>
      simp only [List.getD_cons_zero] at hn
      have : ¬ d < 0 := by omega
      simp [negs, List.countP_cons, hn, this]
    | succ k =>
      have := ih (k := k) (by simpa using hk) (by simpa using hn)
      simp only [negs, List.set_cons_succ, List.countP_cons] at this ⊢
      omega
/-- what holds of distances D and a queue q, with f rounds left of F -/
structure BfsI (N F f : Nat) (D : List Int) (q : List Nat) : Prop where
  len : D.length = N
  queue : ∀ h ∈ q, h < N ∧ 0 ≤ D.getD h 0
  fuel : q.length + negs D ≤ f
  top : ∀ h, D.getD h 0 + (f : Int) ≤ F
  low : ∀ h, -1 ≤ D.getD h 0
  fF : f ≤ F
theorem getD_set' {D : List Int} {k h : Nat} {d : Int} (hk : k < D.length) : (D.set k d).getD h 0 = if h = k then d else D.getD h 0 := by
  simp only [List.getD, List.getElem?_set]
  by_cases hh : h = k
  · subst hh; simp [hk]
  · simp [hh, Ne.symm hh]
theorem BfsI.new {N F f : Nat} {D : List Int} {q : List Nat} {k : Nat} {d : Int} (h : BfsI N F f D q) (hk : k < N) (hn : D.getD k 0 < 0) (hd : 0 ≤ d) (hdF : d + (f : Int) ≤ F) : BfsI N F f (D.set k d) (q ++ [k]) := by
  have hkl : k < D.length := by rw [h.len]; exact hk
  refine ⟨by rw [List.length_set]; exact h.len, fun x hx => ?_, ?_, fun x => ?_, fun x => ?_, h.fF⟩
  · rw [getD_set' hkl]
    rcases List.mem_append.1 hx with hx | hx
    · have := h.queue x hx
      split
      · exact ⟨this.1, hd⟩
      · exact this
    · have : x = k := by simpa using hx
      subst this
      simp [hk, hd]
  · have := negs_set hkl hn hd
    have := h.fuel
    rw [List.length_append, List.length_singleton]
    omega
  · rw [getD_set' hkl]
    have := h.top x
    split <;> omega
  · rw [getD_set' hkl]
    have := h.low x
    split <;> omega
theorem BfsI.pop {N F f : Nat} {D : List Int} {q : List Nat} {k : Nat} (h : BfsI N F (f + 1) D (k :: q)) : BfsI N F f D q :=
  ⟨h.len, fun x hx => h.queue x (List.mem_cons_of_mem _ hx), by have := h.fuel; rw [List.length_cons] at this; omega, fun x => by have := h.top x; omega, h.low, by have := h.fF; omega⟩
theorem bfs_nil (next : Nat → List Nat) (f : Nat) (D : List Int) : bfs next f D [] = D := by cases f <;> rfl
theorem bfs_len (next : Nat → List Nat) : ∀ (f : Nat) (D : List Int) (q : List Nat), (bfs next f D q).length = D.length := by
  have hr : ∀ (d : Int) (l : List Nat) (D : List Int) (q : List Nat), (relax d l D q).1.length = D.length := by
    intro d l
    induction l with
    | nil => intro D q; rfl
    | cons k l ih =>
      intro D q
      rw [relax]
      split
      · rw [ih, List.length_set]
      · exact ih _ _
  intro f
  induction f with
  | zero => intro D q; rfl
  | succ f ih =>
    intro D q
    cases q with
    | nil => rfl
    | cons h q => rw [bfs, ih, hr]
end Go.Proofs.Ytmdgloeejjepmaa
