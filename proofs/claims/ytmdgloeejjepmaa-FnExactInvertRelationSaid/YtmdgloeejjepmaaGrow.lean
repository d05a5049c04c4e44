/- Laws for slices that the call itself grows or makes: append of one element, of a whole list; make. Over any program. -/
import Derived.Test.YtmdgloeejjepmaaBase
namespace Go.Proofs.Ytmdgloeejjepmaa
set_option linter.unusedVariables false
set_option linter.unusedSimpArgs false
open Go.ChangeShapes Go.WideShapes Go.ChangeAt Go.RowKit

/-- what the program's table says of a slice type t of elements e: zero z, k cells, so many bytes -/
structure ElemOk (P : Program) (t e : TypeId) (z : Value) (k bytes : Nat) : Prop where
  und : P.underlying t = some (.slice e)
  info : (P.info? e).map (fun i => (i.zero, i.size, i.bytes)) = some (some z, k, bytes)
  zc : z.cells.size = k
  pos : 0 < k

section
variable {P : Program} {w : World}
theorem own_below {base : Nat} {w' : World} {e : TypeId} {k n : Nat} {v : Value} {cs : List Value} (h : w.ownsRow base e k v n cs) (hb : base ≤ w.heap.size) (hg : w.grownBy w' v.ownBlock) : Below base w w' :=
  (Below.refl _ _).grown hg hb (fun g hg => (h.lt g hg).1)

/-- append(s, x): the one element was laid in a block of its own first -/
theorem wpList_append1 {α : Type} (E : α → List Value) {ops : Array Oper} {rest : List Oper} {o : Oper} {a : Act} {Q : Exit → Act → World → Prop} {t e : TypeId} {z : Value} {k bytes : Nat} (el : ElemOk P t e z k bytes)
    (hgd : o.guard = none) (s y : Operand) (ho : o.op = .call { callee := .builtin .append, args := #[s, y], argTypes := #[t, t] })
    (base : Nat) (v : Value) (xs : List α) (x : α) (cs : Array Value) (c H : Nat) (hs : a.eval s = v) (hown : w.ownsRow base e k v xs.length (xs.flatMap E)) (hy : a.eval y = .slice (some ⟨H, 0, none⟩) 1 c) (hH : H = w.heap.size)
    (hcs : cs = (E x).toArray) (hE : (E x).length = k) (h1 : ∀ u ∈ E x, u.oneCell' = true) (hbytes : (xs.length + 1) * bytes ≤ 140737488355328) (hb0 : 0 < bytes) (hbase : base ≤ w.heap.size)
    (h : ∀ v' w', w'.ownsRow base e k v' (xs ++ [x]).length ((xs ++ [x]).flatMap E) → Below base w w' → (v'.ownBlock = v.ownBlock ∨ ∃ g, v'.ownBlock = some g ∧ w.heap.size ≤ g) → (w.alloc (.cells cs e)).grownBy w' v.ownBlock → wpList P ops Q rest (a.put o.dst v') w') :
    wpList P ops Q (o :: rest) a (w.alloc (.cells cs e)) := by
  subst hcs hH
  obtain ⟨i, hi, hz0, hz1, hz2⟩ := info_parts el.info
  have hlen : xs.length + 1 ≤ 140737488355328 := Nat.le_trans (Nat.le_mul_of_pos_right _ hb0) hbytes
  refine wpList_append_own_at (P := P) (w := w.alloc (.cells (E x).toArray e)) hgd s y t ho base e i z k bytes el.und hi hz0 hz1 hz2 el.zc el.pos v xs.length (xs.flatMap E) hs (hown.alloc _) ⟨w.heap.size, 0, none⟩ 1 c (E x) hy (by rw [hE, Nat.one_mul])
    (fun j u hu => ?_) h1 (by unfold maxLen; omega) hbytes (by simp; omega) ?_
  · have hadd : (⟨w.heap.size, 0, none⟩ : Addr).add j = ⟨w.heap.size, j, none⟩ := by unfold Addr.add; split <;> simp_all
    rw [hadd, World.cell?_alloc_new]
    simpa using hu
  · intro v' w' h2 h3 _ h5
    refine h v' w' (by simpa using h2) ((((Below.refl base w).alloc hbase _)).trans (own_below (hown.alloc _) (by simp; omega) h3)) ?_ h3
    rcases h5 with h5 | h5
    · exact .inl h5
    · exact .inr ⟨_, h5, by simp⟩

theorem getElem?_flat_replicate {α : Type} {E : α → List Value} {k : Nat} {d : α} (hk : (E d).length = k) : ∀ (n j : Nat), ((List.replicate n d).flatMap E)[j]? = if j < n * k then (E d)[j % k]? else none := by
  intro n
  induction n with
  | zero => intro j; simp
  | succ n ih =>
    intro j
    rw [List.replicate_succ, List.flatMap_cons, List.getElem?_append, hk]
    by_cases hj : j < k
    · rw [if_pos hj, if_pos (by rw [Nat.succ_mul]; omega), Nat.mod_eq_of_lt hj]
    · rw [if_neg hj, ih, Nat.succ_mul]
      by_cases h2 : j < n * k + k
      · rw [if_pos h2, if_pos (by omega)]
        congr 1
        conv => rhs; rw [show j = (j - k) + k by omega, Nat.add_mod_right]
      · rw [if_neg h2, if_neg (by omega)]

theorem madeCells_flat {α : Type} {E : α → List Value} {k : Nat} {d : α} {z : Array Value} (hk : (E d).length = k) (hz : z.toList = E d) (hpos : 0 < k) (n : Nat) : (madeCells z (n * k)).toList = (List.replicate n d).flatMap E := by
  apply List.ext_getElem?
  intro j
  rw [getElem?_flat_replicate hk]
  have hzs : z.size = k := by rw [← Array.length_toList, hz, hk]
  by_cases hj : j < n * k
  · rw [if_pos hj]
    have hm : j % k < z.size := by rw [hzs]; exact Nat.mod_lt _ hpos
    have : (E d)[j % k]? = z[j % k]? := by rw [← hz, Array.getElem?_toList]
    rw [this]
    simp [madeCells, hj, hzs, hm, Nat.mod_lt _ hpos]
  · rw [if_neg hj]
    simp [madeCells, hj]

/-- make([]T, n): n zero elements -/
theorem run_makeE {α : Type} (E : α → List Value) (d : α) {t e : TypeId} {z : Value} {k bytes : Nat} (el : ElemOk P t e z k bytes) (hz : z.cells.toList = E d) (hE : (E d).length = k) (n : Nat) (hbytes : bytes * n ≤ 281474976710656) (h63 : n ≤ maxLen) (w : World) :
    ∃ w', (Instr.makeSlice t (.int .i64 (n : Int)) (.int .i64 (n : Int))).run P w = .ok (.slice (some ⟨w.heap.size, 0, none⟩) n n) w' ∧
      w'.ownsRow w.heap.size e k (.slice (some ⟨w.heap.size, 0, none⟩) n n) n ((List.replicate n d).flatMap E) ∧ Below w.heap.size w w' ∧ w'.heap.size = w.heap.size + 1 := by
  obtain ⟨i, hi, hz0, hz1, hz2⟩ := info_parts el.info
  subst hz1 hz2
  have h63' : (n : Int) ≤ 9223372036854775807 := by
    have h := h63
    simp [maxLen] at h
    omega
  have hb' : (i.bytes : Int) * (n : Int) ≤ 281474976710656 := by
    have h : ((i.bytes * n : Nat) : Int) ≤ 281474976710656 := by omega
    rwa [Int.natCast_mul] at h
  have hr := run_make (P := P) w t e i z el.und hi hz0 .i64 .i64 n n (by omega) (Int.le_refl _) hb' h63'
  simp only [Int.toNat_natCast] at hr
  refine ⟨_, hr, ?_, (Below.refl _ _).alloc (Nat.le_refl _) _, by simp⟩
  rw [← madeCells_flat hE hz el.pos n]
  exact World.ownsRow_lit w _ n (Nat.le_refl _) h63 (size_madeCells _ _)
theorem ownsRow_below {lo k n : Nat} {e : TypeId} {v : Value} {cs : List Value} {w w' : World} (h : w.ownsRow lo e k v n cs) {B : Nat} (hb : Below B w w') (hB : w.heap.size ≤ B) : w'.ownsRow lo e k v n cs := by
  have hlt := h.lt
  obtain ⟨hl, hs⟩ := h
  refine ⟨hl, ?_⟩
  rcases hs with hs | ⟨g, cap, cur, rfl, hg, hh, r⟩
  · exact .inl hs
  · exact .inr ⟨g, cap, cur, rfl, hg, (hb.block g (by have := hlt g rfl; omega)).trans hh, r⟩

theorem ownsRow_below' {lo k n m cap g : Nat} {e : TypeId} {cs : List Value} {w w' : World} (h : w.ownsRow lo e k (.slice (some ⟨g, 0, none⟩) m cap) n cs) {B : Nat} (hb : Below B w w') (hB : g < B) : w'.ownsRow lo e k (.slice (some ⟨g, 0, none⟩) m cap) n cs := by
  obtain ⟨hl, hs⟩ := h
  refine ⟨hl, ?_⟩
  rcases hs with ⟨h1, _⟩ | ⟨g', cap', cur, hv, hg, hh, r⟩
  · cases h1
  · have he : g' = g := by injection hv with h1; injection h1 with h1; injection h1 with h1; exact h1.symm
    subst he
    exact .inr ⟨g', cap', cur, hv, hg, (hb.block g' hB).trans hh, r⟩

theorem wpList_makeE {α : Type} (E : α → List Value) (d : α) {ops : Array Oper} {rest : List Oper} {o : Oper} {a : Act} {Q : Exit → Act → World → Prop} {t e : TypeId} {z : Value} {k bytes : Nat} (el : ElemOk P t e z k bytes) (hz : z.cells.toList = E d) (hE : (E d).length = k)
    (hgd : o.guard = none) (l c : Operand) (hop : o.op = Op.makeSlice t l c) (base n : Nat) (N : Int) (hl : a.eval l = .int .i64 N) (hc : a.eval c = .int .i64 N) (hN : N = (n : Int)) (hbytes : bytes * n ≤ 281474976710656) (h63 : n ≤ maxLen) (hb : base ≤ w.heap.size)
    (hK : ∀ w', w'.ownsRow base e k (.slice (some ⟨w.heap.size, 0, none⟩) n n) n ((List.replicate n d).flatMap E) → Below w.heap.size w w' → wpList P ops Q rest (a.put o.dst (.slice (some ⟨w.heap.size, 0, none⟩) n n)) w') :
    wpList P ops Q (o :: rest) a w := by
  subst hN
  refine wpList_plain hgd fun K hK' => ?_
  obtain ⟨w', hrun, r1, r2, _⟩ := run_makeE E d el hz hE n hbytes h63 w
  unfold Oper.wp
  simp [execOp, hop, hl, hc, hrun, Result.andThen]
  refine hK' _ _ (hK w' ?_ r2)
  obtain ⟨hl, hs⟩ := r1
  refine ⟨hl, ?_⟩
  rcases hs with hs | ⟨g, cap, cur, hv, hg, hh, r⟩
  · exact .inl hs
  · exact .inr ⟨g, cap, cur, hv, by omega, hh, r⟩
end
end Go.Proofs.Ytmdgloeejjepmaa
