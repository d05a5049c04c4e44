/- The laws' arguments, as they come in, read as plain data. -/
import Derived.Test.YtmlfkledhnlkeaaBase
import Derived.Deep.Slices
import Derived.Deep.Fields
import Derived.Lib.SmallJoins
namespace Go.Proofs.Ytmlfkledhnlkeaa
set_option linter.unusedVariables false
set_option linter.unusedSimpArgs false
open Go.ChangeShapes Go.WideShapes Go.ChangeAt Go.RowKit Go.Deep Go.Joins
set_option maxRecDepth 100000

section
variable {H : Type} {enc : TypeId × Value → H} {P : Program} {w : World} {sp : Nat → Bool} {held : Bool}

theorem list_of {α : Type} {Q : Nat → α → Prop} : ∀ (n : Nat), (∀ i, i < n → ∃ x, Q i x) → ∃ xs : List α, xs.length = n ∧ ∀ i x, xs[i]? = some x → Q i x := by
  intro n
  induction n with
  | zero => intro _; exact ⟨[], rfl, by simp⟩
  | succ n ih =>
    intro h
    obtain ⟨xs, hl, hx⟩ := ih (fun i hi => h i (by omega))
    obtain ⟨x, hq⟩ := h n (by omega)
    refine ⟨xs ++ [x], by simp [hl], fun i y hy => ?_⟩
    by_cases hi : i < n
    · rw [List.getElem?_append_left (by omega)] at hy
      exact hx i y hy
    · have hin := (List.getElem?_eq_some_iff.1 hy).1
      simp only [List.length_append, List.length_cons, List.length_nil] at hin
      have : i = n := by omega
      subst this
      rw [List.getElem?_append_right (by omega), hl, Nat.sub_self] at hy
      simp at hy
      subst hy
      exact hq

theorem open_list {α : Type} (E : α → List Value) (k : Nat) (Rd : α → Prop) {t e : TypeId} {fuel : Nat} {v : Value} {y : DataW H × List MemPlace} (ht : P.underlying t = some (.slice e)) (hC : P.cellsOf e = k) (hk : 0 < k)
    (helem : ∀ (n : Nat) (cs : List Value) (y : DataW H × List MemPlace), cs.length = k → DataW.trod enc P w 0 sp held n e cs = some y → ∃ x, cs = E x ∧ Rd x)
    (h : DataW.trod enc P w 0 sp held fuel t [v] = some y) : ∃ xs, SlE w E k v xs ∧ ∀ x ∈ xs, Rd x := by
  rcases open_slice ht h with ⟨hcs, _⟩ | ⟨a, len, cap, m, n, D, Pl, hcs, _, hl, hm, hmm, _, hi⟩
  · have hv : v = .slice none 0 0 := by simpa using hcs
    subst hv
    exact ⟨[], SlI.nil _ _ _ _ _, by simp⟩
  · have hv : v = .slice (some a) len cap := by simpa using hcs
    subst hv
    have hlm : len ≤ m := by rw [hmm]; split <;> omega
    obtain ⟨xs, hxl, hx⟩ := list_of (Q := fun i x => Rd x ∧ ∀ j u, (E x)[j]? = some u → j < k ∧ w.cell? ((a.add (i * k)).add j) = some u) len (fun i hil => by
      obtain ⟨cs', hc, ht'⟩ := hi i (by omega)
      rw [hC] at hc
      obtain ⟨_, hcl, hat⟩ := World.cells?_some hc
      obtain ⟨x, rfl, hr⟩ := helem _ _ _ hcl ht'
      refine ⟨x, hr, fun j u hu => ?_⟩
      have hj : j < k := by have := (List.getElem?_eq_some_iff.1 hu).1; omega
      exact ⟨hj, (hat j hj).trans hu⟩)
    subst hxl
    refine ⟨xs, ⟨some a, cap, rfl, hl, hm, fun i x hix => ?_⟩, fun x hxm => ?_⟩
    · have hil := (List.getElem?_eq_some_iff.1 hix).1
      obtain ⟨cs', hc, ht'⟩ := hi i (by omega)
      rw [hC] at hc
      obtain ⟨_, hcl, hat⟩ := World.cells?_some hc
      obtain ⟨b, o, spot⟩ := a
      have h0 := hat 0 hk
      have hc0 : cs'[0]? = some (cs'[0]'(by omega)) := List.getElem?_eq_getElem (by omega)
      rw [hc0] at h0
      have hspot : spot = none := by
        obtain ⟨cs2, hc2, _⟩ := hi 0 (by omega)
        rw [hC] at hc2
        obtain ⟨_, hcl2, hat2⟩ := World.cells?_some hc2
        have h2 := hat2 0 hk
        rw [List.getElem?_eq_getElem (by omega)] at h2
        have := World.cell?_spot h2
        simpa [Addr.add] using this
      subst hspot
      have hadd : ∀ j, ((⟨b, o, none⟩ : Addr).add (i * k)).add j = ⟨b, o + i * k + j, none⟩ := fun j => by
        unfold Addr.add
        by_cases h1 : i * k = 0 <;> by_cases h2 : j = 0 <;> simp [h1, h2] <;> omega
      refine ⟨b, o, rfl, Nat.zero_le _, ?_, fun j u hu => ?_⟩
      · rw [hadd] at h0
        exact World.block_lt_of_cell? _ _ h0
      · have := ((hx i x hix).2 j u hu).2
        rw [hadd] at this
        exact this
    · obtain ⟨i, hil, hie⟩ := List.getElem_of_mem hxm
      exact (hx i x (by rw [List.getElem?_eq_getElem hil, hie])).1

theorem one_of_len {cs : List Value} (h : cs.length = 1) : ∃ u, cs = [u] := by
  match cs, h with
  | [u], _ => exact ⟨u, rfl⟩

theorem elem_int {e : TypeId} (he : P.underlying e = some (.int .i64)) : ∀ (n : Nat) (cs : List Value) (y : DataW H × List MemPlace), cs.length = 1 → DataW.trod enc P w 0 sp held n e cs = some y → ∃ x, cs = cI x ∧ (Lit.int .i64 x).wf = true := by
  intro n cs y _ h
  obtain ⟨x, h1, _, h3⟩ := DataW.trod_int he h
  exact ⟨x, h1, h3⟩
theorem elem_bool {e : TypeId} (he : P.underlying e = some .bool) : ∀ (n : Nat) (cs : List Value) (y : DataW H × List MemPlace), cs.length = 1 → DataW.trod enc P w 0 sp held n e cs = some y → ∃ x, cs = cB x ∧ True := by
  intro n cs y _ h
  obtain ⟨x, h1, _⟩ := DataW.trod_bool he h
  exact ⟨x, h1, trivial⟩
/-- a field of one cell out of a struct's cells -/
theorem field_of {e : TypeId} {fs : Array Field} {n : Nat} {cs : List Value} {y : DataW H × List MemPlace} (he : P.underlying e = some (.struct fs)) (hone : oneCellFields P fs = true) (hC : P.cellsOf e = fs.size)
    (h : DataW.trod enc P w 0 sp held n e cs = some y) (j : Nat) (f : Field) (hj : fs[j]? = some f) : ∃ (u : Value) (n' : Nat) (y' : DataW H × List MemPlace), cs[j]? = some u ∧ DataW.trod enc P w 0 sp held n' f.type [u] = some y' := by
  obtain ⟨ys, n', _, _, hlen, hyl, hf⟩ := DataW.trod_struct he h
  obtain ⟨ho, hk⟩ := hone_of hone j f hj
  have hjl : j < fs.size := (Array.getElem?_eq_some_iff.1 hj).1
  have h1 := hf j f hj
  rw [ho, hk] at h1
  have hone' : (cs.drop j).take 1 = [cs[j]'(by omega)] := by
    rw [List.drop_eq_getElem_cons (by omega)]
    rfl
  rw [hone'] at h1
  have hys : ys[j]? = some (ys[j]'(by omega)) := List.getElem?_eq_getElem (by omega)
  exact ⟨_, n', _, List.getElem?_eq_getElem (by omega), h1.trans hys⟩
theorem elem_pr {e f : TypeId} {f0 f1 : Field} (he : P.underlying e = some (.struct #[f0, f1])) (hone : oneCellFields P #[f0, f1] = true) (hC : P.cellsOf e = 2) (h0 : P.underlying f0.type = some (.int .i64)) (h1 : P.underlying f1.type = some (.int .i64)) :
    ∀ (n : Nat) (cs : List Value) (y : DataW H × List MemPlace), cs.length = 2 → DataW.trod enc P w 0 sp held n e cs = some y → ∃ x, cs = cPr x ∧ True := by
  intro n cs y hl h
  obtain ⟨u0, n0, y0, g0, k0⟩ := field_of he hone hC h 0 f0 rfl
  obtain ⟨u1, n1, y1, g1, k1⟩ := field_of he hone hC h 1 f1 rfl
  obtain ⟨a, ha, _⟩ := DataW.trod_int h0 k0
  obtain ⟨b, hb, _⟩ := DataW.trod_int h1 k1
  simp only [List.cons.injEq, and_true] at ha hb
  subst ha hb
  match cs, hl with
  | [c0, c1], _ =>
    simp at g0 g1
    subst g0 g1
    exact ⟨(a, b), rfl, trivial⟩
theorem elem_st {e f : TypeId} {f0 f1 : Field} (he : P.underlying e = some (.struct #[f0, f1])) (hone : oneCellFields P #[f0, f1] = true) (hC : P.cellsOf e = 2) (h0 : P.underlying f0.type = some (.int .i64)) (h1 : P.underlying f1.type = some .bool) :
    ∀ (n : Nat) (cs : List Value) (y : DataW H × List MemPlace), cs.length = 2 → DataW.trod enc P w 0 sp held n e cs = some y → ∃ x, cs = cSt x ∧ True := by
  intro n cs y hl h
  obtain ⟨u0, n0, y0, g0, k0⟩ := field_of he hone hC h 0 f0 rfl
  obtain ⟨u1, n1, y1, g1, k1⟩ := field_of he hone hC h 1 f1 rfl
  obtain ⟨a, ha, _⟩ := DataW.trod_int h0 k0
  obtain ⟨b, hb, _⟩ := DataW.trod_bool h1 k1
  simp only [List.cons.injEq, and_true] at ha hb
  subst ha hb
  match cs, hl with
  | [c0, c1], _ =>
    simp at g0 g1
    subst g0 g1
    exact ⟨(a, b), rfl, trivial⟩
theorem elem_ed {e f : TypeId} {f0 f1 f2 f3 : Field} (he : P.underlying e = some (.struct #[f0, f1, f2, f3])) (hone : oneCellFields P #[f0, f1, f2, f3] = true) (hC : P.cellsOf e = 4) (h0 : P.underlying f0.type = some (.int .i64)) (h1 : P.underlying f1.type = some (.int .i64)) (h2 : P.underlying f2.type = some (.int .i64)) (h3 : P.underlying f3.type = some (.int .i64)) :
    ∀ (n : Nat) (cs : List Value) (y : DataW H × List MemPlace), cs.length = 4 → DataW.trod enc P w 0 sp held n e cs = some y → ∃ x, cs = cEd x ∧ True := by
  intro n cs y hl h
  obtain ⟨u0, n0, y0, g0, k0⟩ := field_of he hone hC h 0 f0 rfl
  obtain ⟨u1, n1, y1, g1, k1⟩ := field_of he hone hC h 1 f1 rfl
  obtain ⟨u2, n2, y2, g2, k2⟩ := field_of he hone hC h 2 f2 rfl
  obtain ⟨u3, n3, y3, g3, k3⟩ := field_of he hone hC h 3 f3 rfl
  obtain ⟨a, ha, _⟩ := DataW.trod_int h0 k0
  obtain ⟨b, hb, _⟩ := DataW.trod_int h1 k1
  obtain ⟨c, hc, _⟩ := DataW.trod_int h2 k2
  obtain ⟨d, hd, _⟩ := DataW.trod_int h3 k3
  simp only [List.cons.injEq, and_true] at ha hb hc hd
  subst ha hb hc hd
  match cs, hl with
  | [c0, c1, c2, c3], _ =>
    simp at g0 g1 g2 g3
    subst g0 g1 g2 g3
    exact ⟨(a, b, c, d), rfl, trivial⟩
end

section
variable {H : Type} {enc : TypeId × Value → H} {w : World} {sp : Nat → Bool} {held : Bool} {b0 : Nat} {v : Value} {d : DataW H} {p : List MemPlace}
theorem openGraph (hv : Value.okWide Try.prog w .any b0 38 v) (h : DataW.Trod enc Try.prog w 0 sp held 38 v d p) : ∃ g : Gr, GrV 0 w.heap.size w v g := by
  obtain ⟨v0, v1, y0, y1, n, rfl, _, _, h0, h1⟩ := open_agg2 Try.underlying38 (by kernel_rfl) (by kernel_rfl) hv h
  obtain ⟨xs, hx, _⟩ := open_list cI 1 _ Try.underlying22 (by kernel_rfl) (by omega) (elem_int Try.underlying3) h0
  obtain ⟨ys, hy, _⟩ := open_list cEd 4 (fun _ => True) Try.underlying36 (by kernel_rfl) (by omega) (elem_ed (f := 0) Try.underlying146 (by kernel_rfl) (by kernel_rfl) Try.underlying3 Try.underlying3 Try.underlying3 Try.underlying3) h1
  exact ⟨⟨xs, ys⟩, v0, v1, rfl, hx, hy⟩
theorem openWalk (hv : Value.okWide Try.prog w .any b0 59 v) (h : DataW.Trod enc Try.prog w 0 sp held 59 v d p) : ∃ k : Wk, WkV 0 w.heap.size w v k := by
  obtain ⟨v0, v1, y0, y1, n, rfl, _, _, h0, h1⟩ := open_agg2 Try.underlying59 (by kernel_rfl) (by kernel_rfl) hv h
  obtain ⟨a, ha, _⟩ := DataW.trod_int Try.underlying3 h0
  simp only [List.cons.injEq, and_true] at ha
  subst ha
  obtain ⟨ys, hy, _⟩ := open_list cSt 2 (fun _ => True) Try.underlying57 (by kernel_rfl) (by omega) (elem_st (f := 0) Try.underlying166 (by kernel_rfl) (by kernel_rfl) Try.underlying3 Try.underlying4) h1
  exact ⟨(a, ys), v1, rfl, hy⟩
theorem openStep (hv : Value.okWide Try.prog w .any b0 166 v) (h : DataW.Trod enc Try.prog w 0 sp held 166 v d p) : ∃ k : St, v = .agg #[.int .i64 k.1, .bool k.2] := by
  obtain ⟨v0, v1, y0, y1, n, rfl, _, _, h0, h1⟩ := open_agg2 Try.underlying166 (by kernel_rfl) (by kernel_rfl) hv h
  obtain ⟨a, ha, _⟩ := DataW.trod_int Try.underlying3 h0
  obtain ⟨b, hb, _⟩ := DataW.trod_bool Try.underlying4 h1
  simp only [List.cons.injEq, and_true] at ha hb
  subst ha hb
  exact ⟨(a, b), rfl⟩
theorem openAutomaton (hv : Value.okWide Try.prog w .any b0 42 v) (h : DataW.Trod enc Try.prog w 0 sp held 42 v d p) : ∃ a : Au, AuV 0 w.heap.size w v a := by
  obtain ⟨v0, v1, v2, y0, y1, y2, n, rfl, _, _, h0, h1, h2⟩ := open_agg3 Try.underlying42 (by kernel_rfl) (by kernel_rfl) hv h
  obtain ⟨a, ha, _⟩ := DataW.trod_int Try.underlying3 h0
  simp only [List.cons.injEq, and_true] at ha
  subst ha
  obtain ⟨xs, hx, _⟩ := open_list cB 1 (fun _ => True) Try.underlying39 (by kernel_rfl) (by omega) (elem_bool Try.underlying4) h1
  obtain ⟨us, hu, hur⟩ := open_list cV 1 (fun u => ∃ xs, SlE w cI 1 u xs) Try.underlying40 (by kernel_rfl) (by omega) (fun n cs y hl hc => by
    obtain ⟨u, rfl⟩ := one_of_len hl
    obtain ⟨xs, hx, _⟩ := open_list cI 1 _ Try.underlying22 (by kernel_rfl) (by omega) (elem_int Try.underlying3) hc
    exact ⟨u, rfl, xs, hx⟩) h2
  obtain ⟨xss, hl, hxs⟩ := list_of (Q := fun i xs => ∀ u, us[i]? = some u → SlE w cI 1 u xs) us.length (fun i hi => by
    obtain ⟨xs, hx⟩ := hur us[i] (List.getElem_mem hi)
    refine ⟨xs, fun u hu => ?_⟩
    rw [List.getElem?_eq_getElem hi] at hu
    injection hu with hu
    subst hu
    exact hx)
  exact ⟨⟨a, xs, xss⟩, v1, v2, rfl, hx, us, hu, hl.symm, fun i u xs hu hx => hxs i xs hx u hu⟩
end
end Go.Proofs.Ytmlfkledhnlkeaa
