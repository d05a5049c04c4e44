/- Parts of the proof, joined into one text: Rows2, ArcM, Keep, HeldL. -/
import Derived.Test.YtmlfkledhnlkeaaPartCAPLBKNO
import Derived.Test.YtmlfkledhnlkeaaPartBCKJGNPE
import Derived.Deep.RegionHeld3
import Derived.Deep.AppendLies
import Derived.Test.YtmlfkledhnlkeaaPartBIGHANEE
import Derived.Test.YtmlfkledhnlkeaaPartPLILMNPP
import Derived.Deep.RegionHeld
/- A slice of slices that the call itself made and fills row by row; appending in a region that draws its order. Over any program. -/
namespace Go.Proofs.Ytmlfkledhnlkeaa
set_option linter.unusedVariables false
set_option linter.unusedSimpArgs false
open Go.ChangeShapes Go.WideShapes Go.ChangeAt Go.RowKit

section
variable {α : Type} {w w' : World} {base : Nat} {oT rT e : TypeId} {E : α → List Value} {k : Nat} {g : Nat} {hs : List Value} {xss : List (List α)} {v : Value} {n : Nat} {cs : List Value}
theorem ownsRow_block (h : w.ownsRow base e k v n cs) (hb : ∀ g, v.ownBlock = some g → w'.heap[g]? = w.heap[g]?) : w'.ownsRow base e k v n cs := by
  obtain ⟨hl, h⟩ := h
  refine ⟨hl, ?_⟩
  rcases h with h | ⟨g, cap, cur, rfl, hg, hh, r⟩
  · exact .inl h
  · exact .inr ⟨g, cap, cur, rfl, hg, (hb g rfl).trans hh, r⟩
theorem ownsRow_mono (h : w.ownsRow base e k v n cs) {b : Nat} (hb : b ≤ base) : w.ownsRow b e k v n cs := by
  obtain ⟨hl, h⟩ := h
  refine ⟨hl, ?_⟩
  rcases h with h | ⟨g, cap, cur, rfl, hg, r⟩
  · exact .inl h
  · exact .inr ⟨g, cap, cur, rfl, by omega, r⟩

structure Rws {α : Type} (w : World) (base : Nat) (oT rT : TypeId) (E : α → List Value) (k : Nat) (g : Nat) (hs : List Value) (xss : List (List α)) : Prop where
  own : w.ownsRow g oT 1 (.slice (some ⟨g, 0, none⟩) hs.length hs.length) hs.length hs
  len : hs.length = xss.length
  row : ∀ (i : Nat) (h : Value) (xs : List α), hs[i]? = some h → xss[i]? = some xs → w.ownsRow base rT k h xs.length (xs.flatMap E)
  far : ∀ (i : Nat) (h : Value), hs[i]? = some h → h.ownBlock ≠ some g
  apart : ∀ (i j : Nat) (h h' : Value), i ≠ j → hs[i]? = some h → hs[j]? = some h' → h.ownBlock = none ∨ h.ownBlock ≠ h'.ownBlock
theorem Rws.blocks (h : Rws w base oT rT E k g hs xss) (hb : ∀ b, (b = g ∨ base ≤ b) → b < w.heap.size → w'.heap[b]? = w.heap[b]?) : Rws w' base oT rT E k g hs xss := by
  refine ⟨ownsRow_block h.own fun b hb' => hb b (.inl (by simpa [Value.ownBlock] using hb'.symm)) (h.own.lt b hb').2, h.len, fun i v xs hi hx => ?_, h.far, h.apart⟩
  have := h.row i v xs hi hx
  exact ownsRow_block this fun b hb' => hb b (.inr (this.lt b hb').1) (this.lt b hb').2
theorem Rws.below (h : Rws w base oT rT E k g hs xss) (hb : Below w.heap.size w w') : Rws w' base oT rT E k g hs xss := h.blocks fun b _ hlt => hb.block b hlt
theorem Rws.gLt (h : Rws w base oT rT E k g hs xss) : g ≤ g ∧ g < w.heap.size := h.own.lt g rfl
theorem Rws.cell (h : Rws w base oT rT E k g hs xss) {i : Nat} {v : Value} (hi : hs[i]? = some v) : w.cell? ⟨g, i, none⟩ = some v :=
  (World.ownsRow.cellAt h.own i (by have := (List.getElem?_eq_some_iff.1 hi).1; omega)).trans hi
theorem Rws.frozen (h : Rws w base oT rT E k g hs xss) (i : Nat) : w.frozen? ⟨g, i, none⟩ = false := World.ownsRow.frozenAt h.own i
theorem Rws.made (h : w.ownsRow g oT 1 (.slice (some ⟨g, 0, none⟩) n n) n ((List.replicate n (Value.slice none 0 0)).flatMap cV)) : Rws w base oT rT E k g (List.replicate n (.slice none 0 0)) (List.replicate n ([] : List α)) := by
  have hf : ∀ n, (List.replicate n (Value.slice none 0 0)).flatMap cV = List.replicate n (.slice none 0 0) := by
    intro n
    induction n with
    | zero => rfl
    | succ n ih => rw [List.replicate_succ, List.flatMap_cons, ih]; rfl
  have hv : ∀ {i : Nat} {h : Value}, (List.replicate n (Value.slice none 0 0))[i]? = some h → h = .slice none 0 0 := by
    intro i h hi
    rw [List.getElem?_replicate] at hi
    split at hi
    · injection hi with hi; exact hi.symm
    · cases hi
  rw [hf] at h
  refine ⟨by simpa using h, by simp, fun i h xs hi hx => ?_, fun i h hi => ?_, fun i j h h' _ hi _ => .inl ?_⟩
  · have := hv hi
    subst this
    have hx' : xs = [] := by
      rw [List.getElem?_replicate] at hx
      split at hx
      · injection hx with hx; exact hx.symm
      · cases hx
    subst hx'
    exact World.ownsRow_nil w base rT k
  · have := hv hi
    subst this
    simp [Value.ownBlock]
  · have := hv hi
    subst this
    rfl
/-- row i grows by x: the append law's words, then the store of the new header -/
theorem Rws.push (h : Rws w base oT rT E k g hs xss) {i : Nat} {hv : Value} {xs : List α} {x : α} {v' : Value} {g2 : Nat} (hi : hs[i]? = some hv) (hx : xss[i]? = some xs)
    (hown : w'.ownsRow base rT k v' (xs ++ [x]).length ((xs ++ [x]).flatMap E)) (hg : w.grownBy w' hv.ownBlock) (hv' : v'.ownBlock = some g2) (hat : hv.ownBlock = some g2 ∨ w.heap.size ≤ g2) :
    Rws (w'.setCell ⟨g, i, none⟩ v') base oT rT E k g (hs.set i v') (xss.set i (xs ++ [x])) := by
  have hgl := h.gLt
  have hil := (List.getElem?_eq_some_iff.1 hi).1
  have hfar := h.far i hv hi
  have hg2 : g2 ≠ g := by
    rcases hat with h1 | h1
    · intro e; subst e; exact hfar h1
    · omega
  have hset : ∀ b, b ≠ g → (w'.setCell ⟨g, i, none⟩ v').heap[b]? = w'.heap[b]? := fun b hb => Below.heap_setCell _ _ _ _ hb
  have ho1 : w'.ownsRow g oT 1 (.slice (some ⟨g, 0, none⟩) hs.length hs.length) hs.length hs := h.own.kept hg (.inr (by simpa [Value.ownBlock] using Ne.symm hfar))
  have ho2 := (World.ownsRow.stored ho1 i v').1
  refine ⟨by simpa using ho2, by simp [h.len], fun j u ys hj hy => ?_, fun j u hj => ?_, fun j l u u' hjl hj hl => ?_⟩
  · rw [List.getElem?_set] at hj hy
    by_cases e : i = j
    · subst e
      rw [if_pos rfl] at hj hy
      rw [if_pos hil] at hj
      rw [if_pos (by rw [← h.len]; exact hil)] at hy
      injection hj with hj
      injection hy with hy
      subst hj hy
      exact ownsRow_block hown fun b hb => hset b (by rw [hv'] at hb; injection hb with hb; omega)
    · rw [if_neg e] at hj hy
      have hr := h.row j u ys hj hy
      have hr2 : w'.ownsRow base rT k u ys.length (ys.flatMap E) := hr.kept hg (h.apart j i u hv (Ne.symm e) hj hi)
      exact ownsRow_block hr2 fun b hb => hset b (by intro e2; subst e2; exact h.far j u hj hb)
  · rw [List.getElem?_set] at hj
    by_cases e : i = j
    · subst e
      rw [if_pos rfl, if_pos hil] at hj
      injection hj with hj
      subst hj
      rw [hv']
      simpa using hg2
    · rw [if_neg e] at hj
      exact h.far j u hj
  · have hold : ∀ (j : Nat) (u : Value), j ≠ i → hs[j]? = some u → u.ownBlock = none ∨ u.ownBlock ≠ some g2 := by
      intro j u hji hj
      rcases hat with h1 | h1
      · rcases h.apart j i u hv hji hj hi with h2 | h2
        · exact .inl h2
        · rw [h1] at h2; exact .inr h2
      · cases hu : u.ownBlock with
        | none => exact .inl rfl
        | some b =>
          refine .inr ?_
          have hjl := (List.getElem?_eq_some_iff.1 hj).1
          have hjx : j < xss.length := by rw [← h.len]; exact hjl
          have hr := h.row j u xss[j] hj (List.getElem?_eq_getElem hjx)
          have := (hr.lt b hu).2
          simp only [ne_eq, Option.some.injEq]
          omega
    rw [List.getElem?_set] at hj hl
    by_cases e : i = j
    · subst e
      rw [if_neg hjl] at hl
      rw [if_pos rfl, if_pos hil] at hj
      injection hj with hj
      subst hj
      refine .inr ?_
      rw [hv']
      rcases hold l u' (Ne.symm hjl) hl with h1 | h1
      · rw [h1]; simp
      · exact Ne.symm h1
    · rw [if_neg e] at hj
      by_cases e2 : i = l
      · subst e2
        rw [if_pos rfl, if_pos hil] at hl
        injection hl with hl
        subst hl
        rw [hv']
        exact hold j u (Ne.symm e) hj
      · rw [if_neg e2] at hl
        exact h.apart j l u u' hjl hj hl

/-- a slice of slices of E's that is only read; its blocks lie from lo to hi -/
def SSE {α : Type} (lo hi : Nat) (w : World) (E : α → List Value) (k : Nat) (v : Value) (xss : List (List α)) : Prop :=
  ∃ A c, v = .slice A xss.length c ∧ xss.length ≤ c ∧ c ≤ 9223372036854775807 ∧
    ∀ (i : Nat) (xs : List α), xss[i]? = some xs → ∃ b o u, A = some ⟨b, o, none⟩ ∧ lo ≤ b ∧ b < hi ∧ w.cell? ⟨b, o + i, none⟩ = some u ∧ SlI lo hi w E k u xs
theorem SSE.keep_ {lo hi : Nat} {v : Value} (h : SSE lo hi w E k v xss) (hb : ∀ b o, lo ≤ b → b < hi → w'.cell? ⟨b, o, none⟩ = w.cell? ⟨b, o, none⟩) : SSE lo hi w' E k v xss := by
  obtain ⟨A, c, h1, h2, h3, h4⟩ := h
  refine ⟨A, c, h1, h2, h3, fun i xs hx => ?_⟩
  obtain ⟨b, o, u, g1, g2, g3, g4, g5⟩ := h4 i xs hx
  exact ⟨b, o, u, g1, g2, g3, (hb _ _ g2 g3).trans g4, g5.keep_ hb⟩
theorem SSE.below {lo hi : Nat} {v : Value} (h : SSE lo hi w E k v xss) {B : Nat} (hb : Below B w w') (hB : hi ≤ B) : SSE lo hi w' E k v xss := h.keep_ fun b o _ h2 => hb.cell (p := ⟨b, o, none⟩) (show b < B by omega)
theorem SSE.only {lo hi l r : Nat} {v : Value} (h : SSE lo hi w E k v xss) (hb : Only l r w w') (hh : hi ≤ w.heap.size) (ho : hi ≤ l ∨ r ≤ lo) : SSE lo hi w' E k v xss :=
  h.keep_ fun b o h1 h2 => hb.cell (p := ⟨b, o, none⟩) (show b < _ by omega) (show b < l ∨ r ≤ b by omega)
theorem SSE.mono {lo hi lo' hi' : Nat} {v : Value} (h : SSE lo hi w E k v xss) (h1 : lo' ≤ lo) (h2 : hi ≤ hi') : SSE lo' hi' w E k v xss := by
  obtain ⟨A, c, e1, e2, e3, h4⟩ := h
  refine ⟨A, c, e1, e2, e3, fun i xs hx => ?_⟩
  obtain ⟨b, o, u, g1, g2, g3, g4, g5⟩ := h4 i xs hx
  exact ⟨b, o, u, g1, by omega, by omega, g4, g5.mono h1 h2⟩
theorem SSE.keep {v : Value} (h : SSE 0 w.heap.size w E k v xss) (hb : Below w.heap.size w w') : SSE 0 w'.heap.size w' E k v xss := (h.below hb (Nat.le_refl _)).mono (Nat.le_refl _) hb.size
theorem SSE.shape {lo hi : Nat} {v : Value} (h : SSE lo hi w E k v xss) : ∃ A c, v = .slice A xss.length c ∧ xss.length ≤ c ∧ c ≤ 9223372036854775807 := by
  obtain ⟨A, c, e1, e2, e3, _⟩ := h
  exact ⟨A, c, e1, e2, e3⟩
/-- row i, as a walk wants it -/
theorem SSE.row {lo hi : Nat} {A : Option Addr} {n c : Nat} (h : SSE lo hi w E k (.slice A n c) xss) (hh : hi ≤ w.heap.size) {i : Nat} {xs : List α} (hx : xss[i]? = some xs) :
    ∃ b o A3 c3, A = some ⟨b, o, none⟩ ∧ lo ≤ b ∧ b < hi ∧ w.cell? ⟨b, o + i, none⟩ = some (.slice A3 xs.length c3) ∧ xs.length ≤ c3 ∧ c3 ≤ 9223372036854775807 ∧ SlI lo hi w E k (.slice A3 xs.length c3) xs ∧ SlC w.heap.size w E k A3 xs := by
  obtain ⟨A', c', e1, e2, e3, h4⟩ := h
  obtain ⟨b, o, u, g1, g2, g3, g4, g5⟩ := h4 i xs hx
  injection e1 with e1 _ _
  subst e1
  obtain ⟨A3, c3, rfl, f1, f2, f3⟩ := SlE.form (g5.all hh)
  exact ⟨b, o, A3, c3, g1, g2, g3, g4, f1, f2, g5, f3⟩
theorem Rws.sse (h : Rws w base oT rT E k g hs xss) (hE : ∀ x, (E x).length = k) {lo : Nat} (h1 : lo ≤ g) (h2 : lo ≤ base) : SSE lo w.heap.size w E k (.slice (some ⟨g, 0, none⟩) hs.length hs.length) xss := by
  have hgl := h.gLt
  refine ⟨some ⟨g, 0, none⟩, hs.length, by rw [h.len], by rw [h.len]; exact Nat.le_refl _, ?_, fun i xs hx => ?_⟩
  · obtain ⟨_, h1⟩ := h.own
    rcases h1 with ⟨h1, _⟩ | ⟨g', cap, cur, h1, _, _, h2, h3, _⟩
    · cases h1
    · unfold maxLen at h3
      omega
  · have hil := (List.getElem?_eq_some_iff.1 hx).1
    have hih : i < hs.length := by rw [h.len]; exact hil
    have hi : hs[i]? = some hs[i] := List.getElem?_eq_getElem hih
    have hr : Own base w.heap.size w rT E k hs[i] xs := ⟨h.row i _ xs hi hx, fun g hg => ((h.row i _ xs hi hx).lt g hg).2⟩
    exact ⟨g, 0, hs[i], rfl, h1, hgl.2, by rw [Nat.zero_add, h.cell hi], (hr.sl hE).mono h2 (Nat.le_refl _)⟩
end

section
variable {P : Program} {w : World}
/-- append(s, x) at a step of a region that draws its order; the one element lies in block H -/
theorem step_append1 {α : Type} (E : α → List Value) {ops : Array Oper} {o : Oper} {a : Act} {K : Act → World → Prop} {Q : Exit → Act → World → Prop} {EE : Prop} {t e : TypeId} {z : Value} {k bytes : Nat} (el : ElemOk P t e z k bytes)
    (hgd : o.guard = none) (s y : Operand) (ho : o.op = .call { callee := .builtin .append, args := #[s, y], argTypes := #[t, t] })
    (base : Nat) (v : Value) (xs : List α) (x : α) (c H : Nat) (hs : a.eval s = v) (hown : w.ownsRow base e k v xs.length (xs.flatMap E)) (hy : a.eval y = .slice (some ⟨H, 0, none⟩) 1 c)
    (hH : w.heap[H]? = some (.cells (E x).toArray e (0, 0))) (hE : (E x).length = k) (h1 : ∀ u ∈ E x, u.oneCell' = true) (hbytes : (xs.length + 1) * bytes ≤ 140737488355328) (hb0 : 0 < bytes) (hbase : base ≤ w.heap.size)
    (h : ∀ g cap w', w'.ownsRow base e k (.slice (some ⟨g, 0, none⟩) (xs.length + 1) cap) (xs ++ [x]).length ((xs ++ [x]).flatMap E) → w.grownBy w' v.ownBlock → (v.ownBlock = some g ∨ w.heap.size ≤ g) → g < w'.heap.size →
      K (a.put o.dst (.slice (some ⟨g, 0, none⟩) (xs.length + 1) cap)) w') :
    if Region.wanted o (yielded ops a.tmps) = true then Oper.wp P o a w K Q else EE := by
  obtain ⟨i, hi, hz0, hz1, hz2⟩ := info_parts el.info
  have hlen : xs.length + 1 ≤ 140737488355328 := Nat.le_trans (Nat.le_mul_of_pos_right _ hb0) hbytes
  refine step_append_lies w hgd s y t ho base e i z k bytes el.und hi hz0 hz1 hz2 el.zc el.pos v xs.length (xs.flatMap E) hs hown ⟨H, 0, none⟩ 1 c (E x) hy (by rw [hE, Nat.one_mul])
    (by have := World.news_of_block hH; simpa using this) h1 (by omega) (by unfold maxLen; omega) hbytes hbase w.heap.size rfl fun g cap w' h2 h3 h4 h5 => ?_
  refine h g cap w' (by simpa using h2) h3 ?_ h5
  rcases h4 with h4 | h4
  · exact .inl h4
  · exact .inr (by omega)
end
theorem ocell {lo hi : Nat} {w w' : World} (h : Only lo hi w w') {b o : Nat} {v : Value} (hc : w.cell? ⟨b, o, none⟩ = some v) (hb : b < w.heap.size) (ho : b < lo ∨ hi ≤ b) : w'.cell? ⟨b, o, none⟩ = some v := (h.cell (p := ⟨b, o, none⟩) hb ho).trans hc
theorem SlI.nat {lo hi : Nat} {w : World} {A : Option Addr} {n c : Nat} {xs : List Nat} (h : SlI lo hi w cN 1 (.slice A n c) xs) {i : Nat} {x : Nat} (hx : xs[i]? = some x) :
    ∃ b o, A = some ⟨b, o, none⟩ ∧ lo ≤ b ∧ b < hi ∧ w.cell? ⟨b, o + i, none⟩ = some (.int .i64 (x : Int)) := by
  obtain ⟨A', c', hv, _, _, h3⟩ := h
  injection hv with h1 _ _
  subst h1
  obtain ⟨b, o, e, g1, g2, hc⟩ := h3 i x hx
  exact ⟨b, o, e, g1, g2, by simpa using hc 0 _ rfl⟩
/-- an append to a row, then the store of its header: only that row's block and the header block have turned -/
theorem Only.pushed {lo hi g i : Nat} {a w w' : World} {row : Option Nat} {u : Value} (h : Only lo hi a w) (hg : w.grownBy w' row) (hr : ∀ b, row = some b → (lo ≤ b ∧ b < hi) ∨ a.heap.size ≤ b) (hgb : (lo ≤ g ∧ g < hi) ∨ a.heap.size ≤ g) : Only lo hi a (w'.setCell ⟨g, i, none⟩ u) :=
  Only.setCell ⟨hg.os.trans h.os, hg.tape.trans h.tape, hg.output.trans h.output, Nat.le_trans h.size hg.size, fun n hn ho => (hg.block n (Nat.lt_of_lt_of_le hn h.size) (fun e => by have := hr n e.symm; omega)).trans (h.block n hn ho)⟩ hgb _
theorem flatI_at {xs : List Int} {t : Nat} {x : Int} (h : xs[t]? = some x) : (xs.flatMap cI)[t]? = some (.int .i64 x) := by
  have := flat_at cI_len h 0 _ rfl
  simpa using this
theorem flatI_set (xs : List Int) (t : Nat) (x : Int) : (xs.flatMap cI).set t (.int .i64 x) = (xs.set t x).flatMap cI := by
  induction xs generalizing t with
  | nil => simp
  | cons y xs ih =>
    cases t with
    | zero => rfl
    | succ t =>
      have := ih t
      simp only [List.set_cons_succ, List.flatMap_cons, cI, List.cons_append, List.nil_append] at this ⊢
      rw [this]
theorem getD_of {D : List Int} {k : Nat} (h : k < D.length) : D[k]? = some (D.getD k 0) := by
  simp [List.getD, List.getElem?_eq_getElem h]
end Go.Proofs.Ytmlfkledhnlkeaa

/- Plain: the rows of arcs, edge by edge. -/
namespace Go.Proofs.Ytmlfkledhnlkeaa
set_option linter.unusedVariables false
set_option linter.unusedSimpArgs false
/-- the arcs of all nodes by the first i edges -/
def rowsTo (g : Gr) (i : Nat) : List (List Arc) := (List.range g.vals.length).map fun (x : Nat) => (g.edges.take i).flatMap (arcE (x : Int))
theorem rowsTo_at {g : Gr} {i x : Nat} (h : x < g.vals.length) : (rowsTo g i)[x]? = some ((g.edges.take i).flatMap (arcE (x : Int))) := by simp [rowsTo, h]
theorem rowsTo_len (g : Gr) (i : Nat) : (rowsTo g i).length = g.vals.length := by simp [rowsTo]
theorem rowsTo_zero (g : Gr) : rowsTo g 0 = List.replicate g.vals.length [] := by
  apply List.ext_getElem?
  intro x
  simp only [rowsTo, List.take_zero, List.flatMap_nil, List.getElem?_map, List.getElem?_replicate, List.getElem?_range]
  by_cases h : x < g.vals.length
  · simp [h]
  · simp [h]
def rowFrom (g : Gr) (i : Nat) (e : Ed) : List (List Arc) := (rowsTo g i).set e.2.1.toNat ((g.edges.take i).flatMap (arcE e.2.1) ++ [((e.1, false), arcLetter false e, e.2.2.1)])
def rowBack (g : Gr) (i : Nat) (e : Ed) : List Arc := (g.edges.take i).flatMap (arcE e.2.2.1) ++ if e.2.1 = e.2.2.1 then [((e.1, false), arcLetter false e, e.2.2.1)] else []
theorem rowFrom_at {g : Gr} {i : Nat} {e : Ed} (h0 : 0 ≤ e.2.1) (hn : e.2.1 ≤ (g.vals.length : Int) - 1) (h1 : 0 ≤ e.2.2.1) (h2 : e.2.2.1 ≤ (g.vals.length : Int) - 1) : (rowFrom g i e)[e.2.2.1.toNat]? = some (rowBack g i e) := by
  unfold rowFrom rowBack
  rw [List.getElem?_set]
  by_cases h : e.2.1 = e.2.2.1
  · rw [if_pos (by rw [h]), if_pos (by rw [rowsTo_len]; omega), if_pos h, h]
  · rw [if_neg (by omega), if_neg h, rowsTo_at (by omega), Int.toNat_of_nonneg h1]; simp
theorem rowsTo_push {g : Gr} {i : Nat} {e : Ed} (he : g.edges[i]? = some e) (h0 : 0 ≤ e.2.1) (hn : e.2.1 ≤ (g.vals.length : Int) - 1) (h1 : 0 ≤ e.2.2.1) (h2 : e.2.2.1 ≤ (g.vals.length : Int) - 1) :
    (rowFrom g i e).set e.2.2.1.toNat (rowBack g i e ++ [((e.1, true), arcLetter true e, e.2.1)]) = rowsTo g (i + 1) := by
  apply List.ext_getElem?
  intro x
  by_cases hx : x < g.vals.length
  · rw [rowsTo_at hx, flat_take he, List.getElem?_set]
    unfold rowFrom rowBack
    rw [List.length_set, rowsTo_len]
    by_cases hb : e.2.2.1 = (x : Int)
    · rw [if_pos (by omega), if_pos (by omega)]
      congr 1
      rw [hb, List.append_assoc]
      congr 1
      unfold arcE arcLetter
      by_cases hf : e.2.1 = (x : Int)
      · simp [hf, hb]
      · simp [hf, hb]
    · rw [if_neg (by omega), List.getElem?_set, rowsTo_len]
      by_cases hf : e.2.1 = (x : Int)
      · rw [if_pos (by omega), if_pos (by omega)]
        congr 1
        rw [hf]
        congr 1
        unfold arcE arcLetter
        simp [hf, hb]
      · rw [if_neg (by omega), rowsTo_at hx]
        congr 1
        unfold arcE
        simp [hf, hb]
  · rw [List.getElem?_eq_none (by rw [List.length_set, rowFrom, List.length_set, rowsTo_len]; omega), List.getElem?_eq_none (by rw [rowsTo_len]; omega)]
theorem rowsTo_all (g : Gr) : rowsTo g g.edges.length = (List.range g.vals.length).map fun (x : Nat) => arcsOf g (x : Int) := by
  unfold rowsTo arcsOf
  rw [List.take_length]

end Go.Proofs.Ytmlfkledhnlkeaa

/- What a drawn region reads is kept behind calls, new blocks and appends to rows of other blocks. -/
namespace Go.Proofs.Ytmlfkledhnlkeaa
set_option linter.unusedVariables false
set_option linter.unusedSimpArgs false
open Go.ChangeShapes Go.WideShapes Go.ChangeAt Go.RowKit
section
variable {w w' : World}
theorem kcell (hb : Below w.heap.size w w') {p : Addr} {v : Value} (h : w.cell? p = some v) : w'.cell? p = some v := (hb.cell (World.block_lt_of_cell? w _ h)).trans h
theorem kfb (hb : Below w.heap.size w w') {p : Addr} {v : Value} (hc : w.cell? p = some v) (hf : w.frozen? p = false) : w'.frozen? p = false := (hb.frozen (World.block_lt_of_cell? w _ hc)).trans hf
theorem kfg {row : Option Nat} (hg : w.grownBy w' row) {p : Addr} {v : Value} (hn : some p.block ≠ row) (hc : w.cell? p = some v) (hf : w.frozen? p = false) : w'.frozen? p = false := (World.frozen?_of_block (hg.block p.block (World.block_lt_of_cell? w _ hc) hn)).trans hf
theorem kB2 {p0 p1 : Addr} {v0 v1 : Value} (hb : Below w.heap.size w w') (h : w.cell? p0 = some v0 ∧ w.cell? p1 = some v1) : w'.cell? p0 = some v0 ∧ w'.cell? p1 = some v1 := by
  obtain ⟨c0, c1⟩ := h
  exact ⟨kcell hb c0, kcell hb c1⟩
theorem kA2 {p0 p1 : Addr} {v0 v1 : Value} (o : Obj) (h : w.cell? p0 = some v0 ∧ w.cell? p1 = some v1) : (w.alloc o).cell? p0 = some v0 ∧ (w.alloc o).cell? p1 = some v1 := kB2 ((Below.refl _ _).alloc (Nat.le_refl _) _) h
theorem kS2 {p0 p1 q : Addr} {v0 v1 x : Value} (n0 : q.block ≠ p0.block) (n1 : q.block ≠ p1.block) (h : w.cell? p0 = some v0 ∧ w.cell? p1 = some v1) : (w.setCell q x).cell? p0 = some v0 ∧ (w.setCell q x).cell? p1 = some v1 := by
  obtain ⟨c0, c1⟩ := h
  exact ⟨(World.cell?_setCell_far _ _ _ _ n0).trans c0, (World.cell?_setCell_far _ _ _ _ n1).trans c1⟩
theorem kG2 {p0 p1 : Addr} {v0 v1 : Value} {row : Option Nat} (hg : w.grownBy w' row) (n0 : some p0.block ≠ row) (n1 : some p1.block ≠ row) (h : w.cell? p0 = some v0 ∧ w.cell? p1 = some v1) : w'.cell? p0 = some v0 ∧ w'.cell? p1 = some v1 := by
  obtain ⟨c0, c1⟩ := h
  exact ⟨hg.cell c0 n0, hg.cell c1 n1⟩
theorem kB3 {p0 p1 p2 : Addr} {v0 v1 v2 : Value} (hb : Below w.heap.size w w') (h : w.cell? p0 = some v0 ∧ w.cell? p1 = some v1 ∧ w.cell? p2 = some v2) : w'.cell? p0 = some v0 ∧ w'.cell? p1 = some v1 ∧ w'.cell? p2 = some v2 := by
  obtain ⟨c0, c1, c2⟩ := h
  exact ⟨kcell hb c0, kcell hb c1, kcell hb c2⟩
theorem kA3 {p0 p1 p2 : Addr} {v0 v1 v2 : Value} (o : Obj) (h : w.cell? p0 = some v0 ∧ w.cell? p1 = some v1 ∧ w.cell? p2 = some v2) : (w.alloc o).cell? p0 = some v0 ∧ (w.alloc o).cell? p1 = some v1 ∧ (w.alloc o).cell? p2 = some v2 := kB3 ((Below.refl _ _).alloc (Nat.le_refl _) _) h
theorem kS3 {p0 p1 p2 q : Addr} {v0 v1 v2 x : Value} (n0 : q.block ≠ p0.block) (n1 : q.block ≠ p1.block) (n2 : q.block ≠ p2.block) (h : w.cell? p0 = some v0 ∧ w.cell? p1 = some v1 ∧ w.cell? p2 = some v2) : (w.setCell q x).cell? p0 = some v0 ∧ (w.setCell q x).cell? p1 = some v1 ∧ (w.setCell q x).cell? p2 = some v2 := by
  obtain ⟨c0, c1, c2⟩ := h
  exact ⟨(World.cell?_setCell_far _ _ _ _ n0).trans c0, (World.cell?_setCell_far _ _ _ _ n1).trans c1, (World.cell?_setCell_far _ _ _ _ n2).trans c2⟩
theorem kG3 {p0 p1 p2 : Addr} {v0 v1 v2 : Value} {row : Option Nat} (hg : w.grownBy w' row) (n0 : some p0.block ≠ row) (n1 : some p1.block ≠ row) (n2 : some p2.block ≠ row) (h : w.cell? p0 = some v0 ∧ w.cell? p1 = some v1 ∧ w.cell? p2 = some v2) : w'.cell? p0 = some v0 ∧ w'.cell? p1 = some v1 ∧ w'.cell? p2 = some v2 := by
  obtain ⟨c0, c1, c2⟩ := h
  exact ⟨hg.cell c0 n0, hg.cell c1 n1, hg.cell c2 n2⟩
theorem kB4 {p0 p1 p2 p3 : Addr} {v0 v1 v2 v3 : Value} (hb : Below w.heap.size w w') (h : w.cell? p0 = some v0 ∧ w.cell? p1 = some v1 ∧ w.cell? p2 = some v2 ∧ w.cell? p3 = some v3) : w'.cell? p0 = some v0 ∧ w'.cell? p1 = some v1 ∧ w'.cell? p2 = some v2 ∧ w'.cell? p3 = some v3 := by
  obtain ⟨c0, c1, c2, c3⟩ := h
  exact ⟨kcell hb c0, kcell hb c1, kcell hb c2, kcell hb c3⟩
theorem kA4 {p0 p1 p2 p3 : Addr} {v0 v1 v2 v3 : Value} (o : Obj) (h : w.cell? p0 = some v0 ∧ w.cell? p1 = some v1 ∧ w.cell? p2 = some v2 ∧ w.cell? p3 = some v3) : (w.alloc o).cell? p0 = some v0 ∧ (w.alloc o).cell? p1 = some v1 ∧ (w.alloc o).cell? p2 = some v2 ∧ (w.alloc o).cell? p3 = some v3 := kB4 ((Below.refl _ _).alloc (Nat.le_refl _) _) h
theorem kS4 {p0 p1 p2 p3 q : Addr} {v0 v1 v2 v3 x : Value} (n0 : q.block ≠ p0.block) (n1 : q.block ≠ p1.block) (n2 : q.block ≠ p2.block) (n3 : q.block ≠ p3.block) (h : w.cell? p0 = some v0 ∧ w.cell? p1 = some v1 ∧ w.cell? p2 = some v2 ∧ w.cell? p3 = some v3) : (w.setCell q x).cell? p0 = some v0 ∧ (w.setCell q x).cell? p1 = some v1 ∧ (w.setCell q x).cell? p2 = some v2 ∧ (w.setCell q x).cell? p3 = some v3 := by
  obtain ⟨c0, c1, c2, c3⟩ := h
  exact ⟨(World.cell?_setCell_far _ _ _ _ n0).trans c0, (World.cell?_setCell_far _ _ _ _ n1).trans c1, (World.cell?_setCell_far _ _ _ _ n2).trans c2, (World.cell?_setCell_far _ _ _ _ n3).trans c3⟩
theorem kG4 {p0 p1 p2 p3 : Addr} {v0 v1 v2 v3 : Value} {row : Option Nat} (hg : w.grownBy w' row) (n0 : some p0.block ≠ row) (n1 : some p1.block ≠ row) (n2 : some p2.block ≠ row) (n3 : some p3.block ≠ row) (h : w.cell? p0 = some v0 ∧ w.cell? p1 = some v1 ∧ w.cell? p2 = some v2 ∧ w.cell? p3 = some v3) : w'.cell? p0 = some v0 ∧ w'.cell? p1 = some v1 ∧ w'.cell? p2 = some v2 ∧ w'.cell? p3 = some v3 := by
  obtain ⟨c0, c1, c2, c3⟩ := h
  exact ⟨hg.cell c0 n0, hg.cell c1 n1, hg.cell c2 n2, hg.cell c3 n3⟩
theorem kB5 {p0 p1 p2 p3 p4 : Addr} {v0 v1 v2 v3 v4 : Value} (hb : Below w.heap.size w w') (h : w.cell? p0 = some v0 ∧ w.cell? p1 = some v1 ∧ w.cell? p2 = some v2 ∧ w.cell? p3 = some v3 ∧ w.cell? p4 = some v4) : w'.cell? p0 = some v0 ∧ w'.cell? p1 = some v1 ∧ w'.cell? p2 = some v2 ∧ w'.cell? p3 = some v3 ∧ w'.cell? p4 = some v4 := by
  obtain ⟨c0, c1, c2, c3, c4⟩ := h
  exact ⟨kcell hb c0, kcell hb c1, kcell hb c2, kcell hb c3, kcell hb c4⟩
theorem kA5 {p0 p1 p2 p3 p4 : Addr} {v0 v1 v2 v3 v4 : Value} (o : Obj) (h : w.cell? p0 = some v0 ∧ w.cell? p1 = some v1 ∧ w.cell? p2 = some v2 ∧ w.cell? p3 = some v3 ∧ w.cell? p4 = some v4) : (w.alloc o).cell? p0 = some v0 ∧ (w.alloc o).cell? p1 = some v1 ∧ (w.alloc o).cell? p2 = some v2 ∧ (w.alloc o).cell? p3 = some v3 ∧ (w.alloc o).cell? p4 = some v4 := kB5 ((Below.refl _ _).alloc (Nat.le_refl _) _) h
theorem kS5 {p0 p1 p2 p3 p4 q : Addr} {v0 v1 v2 v3 v4 x : Value} (n0 : q.block ≠ p0.block) (n1 : q.block ≠ p1.block) (n2 : q.block ≠ p2.block) (n3 : q.block ≠ p3.block) (n4 : q.block ≠ p4.block) (h : w.cell? p0 = some v0 ∧ w.cell? p1 = some v1 ∧ w.cell? p2 = some v2 ∧ w.cell? p3 = some v3 ∧ w.cell? p4 = some v4) : (w.setCell q x).cell? p0 = some v0 ∧ (w.setCell q x).cell? p1 = some v1 ∧ (w.setCell q x).cell? p2 = some v2 ∧ (w.setCell q x).cell? p3 = some v3 ∧ (w.setCell q x).cell? p4 = some v4 := by
  obtain ⟨c0, c1, c2, c3, c4⟩ := h
  exact ⟨(World.cell?_setCell_far _ _ _ _ n0).trans c0, (World.cell?_setCell_far _ _ _ _ n1).trans c1, (World.cell?_setCell_far _ _ _ _ n2).trans c2, (World.cell?_setCell_far _ _ _ _ n3).trans c3, (World.cell?_setCell_far _ _ _ _ n4).trans c4⟩
theorem kG5 {p0 p1 p2 p3 p4 : Addr} {v0 v1 v2 v3 v4 : Value} {row : Option Nat} (hg : w.grownBy w' row) (n0 : some p0.block ≠ row) (n1 : some p1.block ≠ row) (n2 : some p2.block ≠ row) (n3 : some p3.block ≠ row) (n4 : some p4.block ≠ row) (h : w.cell? p0 = some v0 ∧ w.cell? p1 = some v1 ∧ w.cell? p2 = some v2 ∧ w.cell? p3 = some v3 ∧ w.cell? p4 = some v4) : w'.cell? p0 = some v0 ∧ w'.cell? p1 = some v1 ∧ w'.cell? p2 = some v2 ∧ w'.cell? p3 = some v3 ∧ w'.cell? p4 = some v4 := by
  obtain ⟨c0, c1, c2, c3, c4⟩ := h
  exact ⟨hg.cell c0 n0, hg.cell c1 n1, hg.cell c2 n2, hg.cell c3 n3, hg.cell c4 n4⟩
theorem kB6 {p0 p1 p2 p3 p4 p5 : Addr} {v0 v1 v2 v3 v4 v5 : Value} (hb : Below w.heap.size w w') (h : w.cell? p0 = some v0 ∧ w.cell? p1 = some v1 ∧ w.cell? p2 = some v2 ∧ w.cell? p3 = some v3 ∧ w.cell? p4 = some v4 ∧ w.cell? p5 = some v5) : w'.cell? p0 = some v0 ∧ w'.cell? p1 = some v1 ∧ w'.cell? p2 = some v2 ∧ w'.cell? p3 = some v3 ∧ w'.cell? p4 = some v4 ∧ w'.cell? p5 = some v5 := by
  obtain ⟨c0, c1, c2, c3, c4, c5⟩ := h
  exact ⟨kcell hb c0, kcell hb c1, kcell hb c2, kcell hb c3, kcell hb c4, kcell hb c5⟩
theorem kA6 {p0 p1 p2 p3 p4 p5 : Addr} {v0 v1 v2 v3 v4 v5 : Value} (o : Obj) (h : w.cell? p0 = some v0 ∧ w.cell? p1 = some v1 ∧ w.cell? p2 = some v2 ∧ w.cell? p3 = some v3 ∧ w.cell? p4 = some v4 ∧ w.cell? p5 = some v5) : (w.alloc o).cell? p0 = some v0 ∧ (w.alloc o).cell? p1 = some v1 ∧ (w.alloc o).cell? p2 = some v2 ∧ (w.alloc o).cell? p3 = some v3 ∧ (w.alloc o).cell? p4 = some v4 ∧ (w.alloc o).cell? p5 = some v5 := kB6 ((Below.refl _ _).alloc (Nat.le_refl _) _) h
theorem kS6 {p0 p1 p2 p3 p4 p5 q : Addr} {v0 v1 v2 v3 v4 v5 x : Value} (n0 : q.block ≠ p0.block) (n1 : q.block ≠ p1.block) (n2 : q.block ≠ p2.block) (n3 : q.block ≠ p3.block) (n4 : q.block ≠ p4.block) (n5 : q.block ≠ p5.block) (h : w.cell? p0 = some v0 ∧ w.cell? p1 = some v1 ∧ w.cell? p2 = some v2 ∧ w.cell? p3 = some v3 ∧ w.cell? p4 = some v4 ∧ w.cell? p5 = some v5) : (w.setCell q x).cell? p0 = some v0 ∧ (w.setCell q x).cell? p1 = some v1 ∧ (w.setCell q x).cell? p2 = some v2 ∧ (w.setCell q x).cell? p3 = some v3 ∧ (w.setCell q x).cell? p4 = some v4 ∧ (w.setCell q x).cell? p5 = some v5 := by
  obtain ⟨c0, c1, c2, c3, c4, c5⟩ := h
  exact ⟨(World.cell?_setCell_far _ _ _ _ n0).trans c0, (World.cell?_setCell_far _ _ _ _ n1).trans c1, (World.cell?_setCell_far _ _ _ _ n2).trans c2, (World.cell?_setCell_far _ _ _ _ n3).trans c3, (World.cell?_setCell_far _ _ _ _ n4).trans c4, (World.cell?_setCell_far _ _ _ _ n5).trans c5⟩
theorem kG6 {p0 p1 p2 p3 p4 p5 : Addr} {v0 v1 v2 v3 v4 v5 : Value} {row : Option Nat} (hg : w.grownBy w' row) (n0 : some p0.block ≠ row) (n1 : some p1.block ≠ row) (n2 : some p2.block ≠ row) (n3 : some p3.block ≠ row) (n4 : some p4.block ≠ row) (n5 : some p5.block ≠ row) (h : w.cell? p0 = some v0 ∧ w.cell? p1 = some v1 ∧ w.cell? p2 = some v2 ∧ w.cell? p3 = some v3 ∧ w.cell? p4 = some v4 ∧ w.cell? p5 = some v5) : w'.cell? p0 = some v0 ∧ w'.cell? p1 = some v1 ∧ w'.cell? p2 = some v2 ∧ w'.cell? p3 = some v3 ∧ w'.cell? p4 = some v4 ∧ w'.cell? p5 = some v5 := by
  obtain ⟨c0, c1, c2, c3, c4, c5⟩ := h
  exact ⟨hg.cell c0 n0, hg.cell c1 n1, hg.cell c2 n2, hg.cell c3 n3, hg.cell c4 n4, hg.cell c5 n5⟩
theorem kB7 {p0 p1 p2 p3 p4 p5 p6 : Addr} {v0 v1 v2 v3 v4 v5 v6 : Value} (hb : Below w.heap.size w w') (h : w.cell? p0 = some v0 ∧ w.cell? p1 = some v1 ∧ w.cell? p2 = some v2 ∧ w.cell? p3 = some v3 ∧ w.cell? p4 = some v4 ∧ w.cell? p5 = some v5 ∧ w.cell? p6 = some v6) : w'.cell? p0 = some v0 ∧ w'.cell? p1 = some v1 ∧ w'.cell? p2 = some v2 ∧ w'.cell? p3 = some v3 ∧ w'.cell? p4 = some v4 ∧ w'.cell? p5 = some v5 ∧ w'.cell? p6 = some v6 := by
  obtain ⟨c0, c1, c2, c3, c4, c5, c6⟩ := h
  exact ⟨kcell hb c0, kcell hb c1, kcell hb c2, kcell hb c3, kcell hb c4, kcell hb c5, kcell hb c6⟩
theorem kA7 {p0 p1 p2 p3 p4 p5 p6 : Addr} {v0 v1 v2 v3 v4 v5 v6 : Value} (o : Obj) (h : w.cell? p0 = some v0 ∧ w.cell? p1 = some v1 ∧ w.cell? p2 = some v2 ∧ w.cell? p3 = some v3 ∧ w.cell? p4 = some v4 ∧ w.cell? p5 = some v5 ∧ w.cell? p6 = some v6) : (w.alloc o).cell? p0 = some v0 ∧ (w.alloc o).cell? p1 = some v1 ∧ (w.alloc o).cell? p2 = some v2 ∧ (w.alloc o).cell? p3 = some v3 ∧ (w.alloc o).cell? p4 = some v4 ∧ (w.alloc o).cell? p5 = some v5 ∧ (w.alloc o).cell? p6 = some v6 := kB7 ((Below.refl _ _).alloc (Nat.le_refl _) _) h
theorem kS7 {p0 p1 p2 p3 p4 p5 p6 q : Addr} {v0 v1 v2 v3 v4 v5 v6 x : Value} (n0 : q.block ≠ p0.block) (n1 : q.block ≠ p1.block) (n2 : q.block ≠ p2.block) (n3 : q.block ≠ p3.block) (n4 : q.block ≠ p4.block) (n5 : q.block ≠ p5.block) (n6 : q.block ≠ p6.block) (h : w.cell? p0 = some v0 ∧ w.cell? p1 = some v1 ∧ w.cell? p2 = some v2 ∧ w.cell? p3 = some v3 ∧ w.cell? p4 = some v4 ∧ w.cell? p5 = some v5 ∧ w.cell? p6 = some v6) : (w.setCell q x).cell? p0 = some v0 ∧ (w.setCell q x).cell? p1 = some v1 ∧ (w.setCell q x).cell? p2 = some v2 ∧ (w.setCell q x).cell? p3 = some v3 ∧ (w.setCell q x).cell? p4 = some v4 ∧ (w.setCell q x).cell? p5 = some v5 ∧ (w.setCell q x).cell? p6 = some v6 := by
  obtain ⟨c0, c1, c2, c3, c4, c5, c6⟩ := h
  exact ⟨(World.cell?_setCell_far _ _ _ _ n0).trans c0, (World.cell?_setCell_far _ _ _ _ n1).trans c1, (World.cell?_setCell_far _ _ _ _ n2).trans c2, (World.cell?_setCell_far _ _ _ _ n3).trans c3, (World.cell?_setCell_far _ _ _ _ n4).trans c4, (World.cell?_setCell_far _ _ _ _ n5).trans c5, (World.cell?_setCell_far _ _ _ _ n6).trans c6⟩
theorem kG7 {p0 p1 p2 p3 p4 p5 p6 : Addr} {v0 v1 v2 v3 v4 v5 v6 : Value} {row : Option Nat} (hg : w.grownBy w' row) (n0 : some p0.block ≠ row) (n1 : some p1.block ≠ row) (n2 : some p2.block ≠ row) (n3 : some p3.block ≠ row) (n4 : some p4.block ≠ row) (n5 : some p5.block ≠ row) (n6 : some p6.block ≠ row) (h : w.cell? p0 = some v0 ∧ w.cell? p1 = some v1 ∧ w.cell? p2 = some v2 ∧ w.cell? p3 = some v3 ∧ w.cell? p4 = some v4 ∧ w.cell? p5 = some v5 ∧ w.cell? p6 = some v6) : w'.cell? p0 = some v0 ∧ w'.cell? p1 = some v1 ∧ w'.cell? p2 = some v2 ∧ w'.cell? p3 = some v3 ∧ w'.cell? p4 = some v4 ∧ w'.cell? p5 = some v5 ∧ w'.cell? p6 = some v6 := by
  obtain ⟨c0, c1, c2, c3, c4, c5, c6⟩ := h
  exact ⟨hg.cell c0 n0, hg.cell c1 n1, hg.cell c2 n2, hg.cell c3 n3, hg.cell c4 n4, hg.cell c5 n5, hg.cell c6 n6⟩
theorem kB8 {p0 p1 p2 p3 p4 p5 p6 p7 : Addr} {v0 v1 v2 v3 v4 v5 v6 v7 : Value} (hb : Below w.heap.size w w') (h : w.cell? p0 = some v0 ∧ w.cell? p1 = some v1 ∧ w.cell? p2 = some v2 ∧ w.cell? p3 = some v3 ∧ w.cell? p4 = some v4 ∧ w.cell? p5 = some v5 ∧ w.cell? p6 = some v6 ∧ w.cell? p7 = some v7) : w'.cell? p0 = some v0 ∧ w'.cell? p1 = some v1 ∧ w'.cell? p2 = some v2 ∧ w'.cell? p3 = some v3 ∧ w'.cell? p4 = some v4 ∧ w'.cell? p5 = some v5 ∧ w'.cell? p6 = some v6 ∧ w'.cell? p7 = some v7 := by
  obtain ⟨c0, c1, c2, c3, c4, c5, c6, c7⟩ := h
  exact ⟨kcell hb c0, kcell hb c1, kcell hb c2, kcell hb c3, kcell hb c4, kcell hb c5, kcell hb c6, kcell hb c7⟩
theorem kA8 {p0 p1 p2 p3 p4 p5 p6 p7 : Addr} {v0 v1 v2 v3 v4 v5 v6 v7 : Value} (o : Obj) (h : w.cell? p0 = some v0 ∧ w.cell? p1 = some v1 ∧ w.cell? p2 = some v2 ∧ w.cell? p3 = some v3 ∧ w.cell? p4 = some v4 ∧ w.cell? p5 = some v5 ∧ w.cell? p6 = some v6 ∧ w.cell? p7 = some v7) : (w.alloc o).cell? p0 = some v0 ∧ (w.alloc o).cell? p1 = some v1 ∧ (w.alloc o).cell? p2 = some v2 ∧ (w.alloc o).cell? p3 = some v3 ∧ (w.alloc o).cell? p4 = some v4 ∧ (w.alloc o).cell? p5 = some v5 ∧ (w.alloc o).cell? p6 = some v6 ∧ (w.alloc o).cell? p7 = some v7 := kB8 ((Below.refl _ _).alloc (Nat.le_refl _) _) h
theorem kS8 {p0 p1 p2 p3 p4 p5 p6 p7 q : Addr} {v0 v1 v2 v3 v4 v5 v6 v7 x : Value} (n0 : q.block ≠ p0.block) (n1 : q.block ≠ p1.block) (n2 : q.block ≠ p2.block) (n3 : q.block ≠ p3.block) (n4 : q.block ≠ p4.block) (n5 : q.block ≠ p5.block) (n6 : q.block ≠ p6.block) (n7 : q.block ≠ p7.block) (h : w.cell? p0 = some v0 ∧ w.cell? p1 = some v1 ∧ w.cell? p2 = some v2 ∧ w.cell? p3 = some v3 ∧ w.cell? p4 = some v4 ∧ w.cell? p5 = some v5 ∧ w.cell? p6 = some v6 ∧ w.cell? p7 = some v7) : (w.setCell q x).cell? p0 = some v0 ∧ (w.setCell q x).cell? p1 = some v1 ∧ (w.setCell q x).cell? p2 = some v2 ∧ (w.setCell q x).cell? p3 = some v3 ∧ (w.setCell q x).cell? p4 = some v4 ∧ (w.setCell q x).cell? p5 = some v5 ∧ (w.setCell q x).cell? p6 = some v6 ∧ (w.setCell q x).cell? p7 = some v7 := by
  obtain ⟨c0, c1, c2, c3, c4, c5, c6, c7⟩ := h
  exact ⟨(World.cell?_setCell_far _ _ _ _ n0).trans c0, (World.cell?_setCell_far _ _ _ _ n1).trans c1, (World.cell?_setCell_far _ _ _ _ n2).trans c2, (World.cell?_setCell_far _ _ _ _ n3).trans c3, (World.cell?_setCell_far _ _ _ _ n4).trans c4, (World.cell?_setCell_far _ _ _ _ n5).trans c5, (World.cell?_setCell_far _ _ _ _ n6).trans c6, (World.cell?_setCell_far _ _ _ _ n7).trans c7⟩
theorem kG8 {p0 p1 p2 p3 p4 p5 p6 p7 : Addr} {v0 v1 v2 v3 v4 v5 v6 v7 : Value} {row : Option Nat} (hg : w.grownBy w' row) (n0 : some p0.block ≠ row) (n1 : some p1.block ≠ row) (n2 : some p2.block ≠ row) (n3 : some p3.block ≠ row) (n4 : some p4.block ≠ row) (n5 : some p5.block ≠ row) (n6 : some p6.block ≠ row) (n7 : some p7.block ≠ row) (h : w.cell? p0 = some v0 ∧ w.cell? p1 = some v1 ∧ w.cell? p2 = some v2 ∧ w.cell? p3 = some v3 ∧ w.cell? p4 = some v4 ∧ w.cell? p5 = some v5 ∧ w.cell? p6 = some v6 ∧ w.cell? p7 = some v7) : w'.cell? p0 = some v0 ∧ w'.cell? p1 = some v1 ∧ w'.cell? p2 = some v2 ∧ w'.cell? p3 = some v3 ∧ w'.cell? p4 = some v4 ∧ w'.cell? p5 = some v5 ∧ w'.cell? p6 = some v6 ∧ w'.cell? p7 = some v7 := by
  obtain ⟨c0, c1, c2, c3, c4, c5, c6, c7⟩ := h
  exact ⟨hg.cell c0 n0, hg.cell c1 n1, hg.cell c2 n2, hg.cell c3 n3, hg.cell c4 n4, hg.cell c5 n5, hg.cell c6 n6, hg.cell c7 n7⟩
theorem kB9 {p0 p1 p2 p3 p4 p5 p6 p7 p8 : Addr} {v0 v1 v2 v3 v4 v5 v6 v7 v8 : Value} (hb : Below w.heap.size w w') (h : w.cell? p0 = some v0 ∧ w.cell? p1 = some v1 ∧ w.cell? p2 = some v2 ∧ w.cell? p3 = some v3 ∧ w.cell? p4 = some v4 ∧ w.cell? p5 = some v5 ∧ w.cell? p6 = some v6 ∧ w.cell? p7 = some v7 ∧ w.cell? p8 = some v8) : w'.cell? p0 = some v0 ∧ w'.cell? p1 = some v1 ∧ w'.cell? p2 = some v2 ∧ w'.cell? p3 = some v3 ∧ w'.cell? p4 = some v4 ∧ w'.cell? p5 = some v5 ∧ w'.cell? p6 = some v6 ∧ w'.cell? p7 = some v7 ∧ w'.cell? p8 = some v8 := by
  obtain ⟨c0, c1, c2, c3, c4, c5, c6, c7, c8⟩ := h
  exact ⟨kcell hb c0, kcell hb c1, kcell hb c2, kcell hb c3, kcell hb c4, kcell hb c5, kcell hb c6, kcell hb c7, kcell hb c8⟩
theorem kA9 {p0 p1 p2 p3 p4 p5 p6 p7 p8 : Addr} {v0 v1 v2 v3 v4 v5 v6 v7 v8 : Value} (o : Obj) (h : w.cell? p0 = some v0 ∧ w.cell? p1 = some v1 ∧ w.cell? p2 = some v2 ∧ w.cell? p3 = some v3 ∧ w.cell? p4 = some v4 ∧ w.cell? p5 = some v5 ∧ w.cell? p6 = some v6 ∧ w.cell? p7 = some v7 ∧ w.cell? p8 = some v8) : (w.alloc o).cell? p0 = some v0 ∧ (w.alloc o).cell? p1 = some v1 ∧ (w.alloc o).cell? p2 = some v2 ∧ (w.alloc o).cell? p3 = some v3 ∧ (w.alloc o).cell? p4 = some v4 ∧ (w.alloc o).cell? p5 = some v5 ∧ (w.alloc o).cell? p6 = some v6 ∧ (w.alloc o).cell? p7 = some v7 ∧ (w.alloc o).cell? p8 = some v8 := kB9 ((Below.refl _ _).alloc (Nat.le_refl _) _) h
theorem kS9 {p0 p1 p2 p3 p4 p5 p6 p7 p8 q : Addr} {v0 v1 v2 v3 v4 v5 v6 v7 v8 x : Value} (n0 : q.block ≠ p0.block) (n1 : q.block ≠ p1.block) (n2 : q.block ≠ p2.block) (n3 : q.block ≠ p3.block) (n4 : q.block ≠ p4.block) (n5 : q.block ≠ p5.block) (n6 : q.block ≠ p6.block) (n7 : q.block ≠ p7.block) (n8 : q.block ≠ p8.block) (h : w.cell? p0 = some v0 ∧ w.cell? p1 = some v1 ∧ w.cell? p2 = some v2 ∧ w.cell? p3 = some v3 ∧ w.cell? p4 = some v4 ∧ w.cell? p5 = some v5 ∧ w.cell? p6 = some v6 ∧ w.cell? p7 = some v7 ∧ w.cell? p8 = some v8) : (w.setCell q x).cell? p0 = some v0 ∧ (w.setCell q x).cell? p1 = some v1 ∧ (w.setCell q x).cell? p2 = some v2 ∧ (w.setCell q x).cell? p3 = some v3 ∧ (w.setCell q x).cell? p4 = some v4 ∧ (w.setCell q x).cell? p5 = some v5 ∧ (w.setCell q x).cell? p6 = some v6 ∧ (w.setCell q x).cell? p7 = some v7 ∧ (w.setCell q x).cell? p8 = some v8 := by
  obtain ⟨c0, c1, c2, c3, c4, c5, c6, c7, c8⟩ := h
  exact ⟨(World.cell?_setCell_far _ _ _ _ n0).trans c0, (World.cell?_setCell_far _ _ _ _ n1).trans c1, (World.cell?_setCell_far _ _ _ _ n2).trans c2, (World.cell?_setCell_far _ _ _ _ n3).trans c3, (World.cell?_setCell_far _ _ _ _ n4).trans c4, (World.cell?_setCell_far _ _ _ _ n5).trans c5, (World.cell?_setCell_far _ _ _ _ n6).trans c6, (World.cell?_setCell_far _ _ _ _ n7).trans c7, (World.cell?_setCell_far _ _ _ _ n8).trans c8⟩
theorem kG9 {p0 p1 p2 p3 p4 p5 p6 p7 p8 : Addr} {v0 v1 v2 v3 v4 v5 v6 v7 v8 : Value} {row : Option Nat} (hg : w.grownBy w' row) (n0 : some p0.block ≠ row) (n1 : some p1.block ≠ row) (n2 : some p2.block ≠ row) (n3 : some p3.block ≠ row) (n4 : some p4.block ≠ row) (n5 : some p5.block ≠ row) (n6 : some p6.block ≠ row) (n7 : some p7.block ≠ row) (n8 : some p8.block ≠ row) (h : w.cell? p0 = some v0 ∧ w.cell? p1 = some v1 ∧ w.cell? p2 = some v2 ∧ w.cell? p3 = some v3 ∧ w.cell? p4 = some v4 ∧ w.cell? p5 = some v5 ∧ w.cell? p6 = some v6 ∧ w.cell? p7 = some v7 ∧ w.cell? p8 = some v8) : w'.cell? p0 = some v0 ∧ w'.cell? p1 = some v1 ∧ w'.cell? p2 = some v2 ∧ w'.cell? p3 = some v3 ∧ w'.cell? p4 = some v4 ∧ w'.cell? p5 = some v5 ∧ w'.cell? p6 = some v6 ∧ w'.cell? p7 = some v7 ∧ w'.cell? p8 = some v8 := by
  obtain ⟨c0, c1, c2, c3, c4, c5, c6, c7, c8⟩ := h
  exact ⟨hg.cell c0 n0, hg.cell c1 n1, hg.cell c2 n2, hg.cell c3 n3, hg.cell c4 n4, hg.cell c5 n5, hg.cell c6 n6, hg.cell c7 n7, hg.cell c8 n8⟩
theorem kB10 {p0 p1 p2 p3 p4 p5 p6 p7 p8 p9 : Addr} {v0 v1 v2 v3 v4 v5 v6 v7 v8 v9 : Value} (hb : Below w.heap.size w w') (h : w.cell? p0 = some v0 ∧ w.cell? p1 = some v1 ∧ w.cell? p2 = some v2 ∧ w.cell? p3 = some v3 ∧ w.cell? p4 = some v4 ∧ w.cell? p5 = some v5 ∧ w.cell? p6 = some v6 ∧ w.cell? p7 = some v7 ∧ w.cell? p8 = some v8 ∧ w.cell? p9 = some v9) : w'.cell? p0 = some v0 ∧ w'.cell? p1 = some v1 ∧ w'.cell? p2 = some v2 ∧ w'.cell? p3 = some v3 ∧ w'.cell? p4 = some v4 ∧ w'.cell? p5 = some v5 ∧ w'.cell? p6 = some v6 ∧ w'.cell? p7 = some v7 ∧ w'.cell? p8 = some v8 ∧ w'.cell? p9 = some v9 := by
  obtain ⟨c0, c1, c2, c3, c4, c5, c6, c7, c8, c9⟩ := h
  exact ⟨kcell hb c0, kcell hb c1, kcell hb c2, kcell hb c3, kcell hb c4, kcell hb c5, kcell hb c6, kcell hb c7, kcell hb c8, kcell hb c9⟩
theorem kA10 {p0 p1 p2 p3 p4 p5 p6 p7 p8 p9 : Addr} {v0 v1 v2 v3 v4 v5 v6 v7 v8 v9 : Value} (o : Obj) (h : w.cell? p0 = some v0 ∧ w.cell? p1 = some v1 ∧ w.cell? p2 = some v2 ∧ w.cell? p3 = some v3 ∧ w.cell? p4 = some v4 ∧ w.cell? p5 = some v5 ∧ w.cell? p6 = some v6 ∧ w.cell? p7 = some v7 ∧ w.cell? p8 = some v8 ∧ w.cell? p9 = some v9) : (w.alloc o).cell? p0 = some v0 ∧ (w.alloc o).cell? p1 = some v1 ∧ (w.alloc o).cell? p2 = some v2 ∧ (w.alloc o).cell? p3 = some v3 ∧ (w.alloc o).cell? p4 = some v4 ∧ (w.alloc o).cell? p5 = some v5 ∧ (w.alloc o).cell? p6 = some v6 ∧ (w.alloc o).cell? p7 = some v7 ∧ (w.alloc o).cell? p8 = some v8 ∧ (w.alloc o).cell? p9 = some v9 := kB10 ((Below.refl _ _).alloc (Nat.le_refl _) _) h
theorem kS10 {p0 p1 p2 p3 p4 p5 p6 p7 p8 p9 q : Addr} {v0 v1 v2 v3 v4 v5 v6 v7 v8 v9 x : Value} (n0 : q.block ≠ p0.block) (n1 : q.block ≠ p1.block) (n2 : q.block ≠ p2.block) (n3 : q.block ≠ p3.block) (n4 : q.block ≠ p4.block) (n5 : q.block ≠ p5.block) (n6 : q.block ≠ p6.block) (n7 : q.block ≠ p7.block) (n8 : q.block ≠ p8.block) (n9 : q.block ≠ p9.block) (h : w.cell? p0 = some v0 ∧ w.cell? p1 = some v1 ∧ w.cell? p2 = some v2 ∧ w.cell? p3 = some v3 ∧ w.cell? p4 = some v4 ∧ w.cell? p5 = some v5 ∧ w.cell? p6 = some v6 ∧ w.cell? p7 = some v7 ∧ w.cell? p8 = some v8 ∧ w.cell? p9 = some v9) : (w.setCell q x).cell? p0 = some v0 ∧ (w.setCell q x).cell? p1 = some v1 ∧ (w.setCell q x).cell? p2 = some v2 ∧ (w.setCell q x).cell? p3 = some v3 ∧ (w.setCell q x).cell? p4 = some v4 ∧ (w.setCell q x).cell? p5 = some v5 ∧ (w.setCell q x).cell? p6 = some v6 ∧ (w.setCell q x).cell? p7 = some v7 ∧ (w.setCell q x).cell? p8 = some v8 ∧ (w.setCell q x).cell? p9 = some v9 := by
  obtain ⟨c0, c1, c2, c3, c4, c5, c6, c7, c8, c9⟩ := h
  exact ⟨(World.cell?_setCell_far _ _ _ _ n0).trans c0, (World.cell?_setCell_far _ _ _ _ n1).trans c1, (World.cell?_setCell_far _ _ _ _ n2).trans c2, (World.cell?_setCell_far _ _ _ _ n3).trans c3, (World.cell?_setCell_far _ _ _ _ n4).trans c4, (World.cell?_setCell_far _ _ _ _ n5).trans c5, (World.cell?_setCell_far _ _ _ _ n6).trans c6, (World.cell?_setCell_far _ _ _ _ n7).trans c7, (World.cell?_setCell_far _ _ _ _ n8).trans c8, (World.cell?_setCell_far _ _ _ _ n9).trans c9⟩
theorem kG10 {p0 p1 p2 p3 p4 p5 p6 p7 p8 p9 : Addr} {v0 v1 v2 v3 v4 v5 v6 v7 v8 v9 : Value} {row : Option Nat} (hg : w.grownBy w' row) (n0 : some p0.block ≠ row) (n1 : some p1.block ≠ row) (n2 : some p2.block ≠ row) (n3 : some p3.block ≠ row) (n4 : some p4.block ≠ row) (n5 : some p5.block ≠ row) (n6 : some p6.block ≠ row) (n7 : some p7.block ≠ row) (n8 : some p8.block ≠ row) (n9 : some p9.block ≠ row) (h : w.cell? p0 = some v0 ∧ w.cell? p1 = some v1 ∧ w.cell? p2 = some v2 ∧ w.cell? p3 = some v3 ∧ w.cell? p4 = some v4 ∧ w.cell? p5 = some v5 ∧ w.cell? p6 = some v6 ∧ w.cell? p7 = some v7 ∧ w.cell? p8 = some v8 ∧ w.cell? p9 = some v9) : w'.cell? p0 = some v0 ∧ w'.cell? p1 = some v1 ∧ w'.cell? p2 = some v2 ∧ w'.cell? p3 = some v3 ∧ w'.cell? p4 = some v4 ∧ w'.cell? p5 = some v5 ∧ w'.cell? p6 = some v6 ∧ w'.cell? p7 = some v7 ∧ w'.cell? p8 = some v8 ∧ w'.cell? p9 = some v9 := by
  obtain ⟨c0, c1, c2, c3, c4, c5, c6, c7, c8, c9⟩ := h
  exact ⟨hg.cell c0 n0, hg.cell c1 n1, hg.cell c2 n2, hg.cell c3 n3, hg.cell c4 n4, hg.cell c5 n5, hg.cell c6 n6, hg.cell c7 n7, hg.cell c8 n8, hg.cell c9 n9⟩
theorem kB11 {p0 p1 p2 p3 p4 p5 p6 p7 p8 p9 p10 : Addr} {v0 v1 v2 v3 v4 v5 v6 v7 v8 v9 v10 : Value} (hb : Below w.heap.size w w') (h : w.cell? p0 = some v0 ∧ w.cell? p1 = some v1 ∧ w.cell? p2 = some v2 ∧ w.cell? p3 = some v3 ∧ w.cell? p4 = some v4 ∧ w.cell? p5 = some v5 ∧ w.cell? p6 = some v6 ∧ w.cell? p7 = some v7 ∧ w.cell? p8 = some v8 ∧ w.cell? p9 = some v9 ∧ w.cell? p10 = some v10) : w'.cell? p0 = some v0 ∧ w'.cell? p1 = some v1 ∧ w'.cell? p2 = some v2 ∧ w'.cell? p3 = some v3 ∧ w'.cell? p4 = some v4 ∧ w'.cell? p5 = some v5 ∧ w'.cell? p6 = some v6 ∧ w'.cell? p7 = some v7 ∧ w'.cell? p8 = some v8 ∧ w'.cell? p9 = some v9 ∧ w'.cell? p10 = some v10 := by
  obtain ⟨c0, c1, c2, c3, c4, c5, c6, c7, c8, c9, c10⟩ := h
  exact ⟨kcell hb c0, kcell hb c1, kcell hb c2, kcell hb c3, kcell hb c4, kcell hb c5, kcell hb c6, kcell hb c7, kcell hb c8, kcell hb c9, kcell hb c10⟩
theorem kA11 {p0 p1 p2 p3 p4 p5 p6 p7 p8 p9 p10 : Addr} {v0 v1 v2 v3 v4 v5 v6 v7 v8 v9 v10 : Value} (o : Obj) (h : w.cell? p0 = some v0 ∧ w.cell? p1 = some v1 ∧ w.cell? p2 = some v2 ∧ w.cell? p3 = some v3 ∧ w.cell? p4 = some v4 ∧ w.cell? p5 = some v5 ∧ w.cell? p6 = some v6 ∧ w.cell? p7 = some v7 ∧ w.cell? p8 = some v8 ∧ w.cell? p9 = some v9 ∧ w.cell? p10 = some v10) : (w.alloc o).cell? p0 = some v0 ∧ (w.alloc o).cell? p1 = some v1 ∧ (w.alloc o).cell? p2 = some v2 ∧ (w.alloc o).cell? p3 = some v3 ∧ (w.alloc o).cell? p4 = some v4 ∧ (w.alloc o).cell? p5 = some v5 ∧ (w.alloc o).cell? p6 = some v6 ∧ (w.alloc o).cell? p7 = some v7 ∧ (w.alloc o).cell? p8 = some v8 ∧ (w.alloc o).cell? p9 = some v9 ∧ (w.alloc o).cell? p10 = some v10 := kB11 ((Below.refl _ _).alloc (Nat.le_refl _) _) h
theorem kS11 {p0 p1 p2 p3 p4 p5 p6 p7 p8 p9 p10 q : Addr} {v0 v1 v2 v3 v4 v5 v6 v7 v8 v9 v10 x : Value} (n0 : q.block ≠ p0.block) (n1 : q.block ≠ p1.block) (n2 : q.block ≠ p2.block) (n3 : q.block ≠ p3.block) (n4 : q.block ≠ p4.block) (n5 : q.block ≠ p5.block) (n6 : q.block ≠ p6.block) (n7 : q.block ≠ p7.block) (n8 : q.block ≠ p8.block) (n9 : q.block ≠ p9.block) (n10 : q.block ≠ p10.block) (h : w.cell? p0 = some v0 ∧ w.cell? p1 = some v1 ∧ w.cell? p2 = some v2 ∧ w.cell? p3 = some v3 ∧ w.cell? p4 = some v4 ∧ w.cell? p5 = some v5 ∧ w.cell? p6 = some v6 ∧ w.cell? p7 = some v7 ∧ w.cell? p8 = some v8 ∧ w.cell? p9 = some v9 ∧ w.cell? p10 = some v10) : (w.setCell q x).cell? p0 = some v0 ∧ (w.setCell q x).cell? p1 = some v1 ∧ (w.setCell q x).cell? p2 = some v2 ∧ (w.setCell q x).cell? p3 = some v3 ∧ (w.setCell q x).cell? p4 = some v4 ∧ (w.setCell q x).cell? p5 = some v5 ∧ (w.setCell q x).cell? p6 = some v6 ∧ (w.setCell q x).cell? p7 = some v7 ∧ (w.setCell q x).cell? p8 = some v8 ∧ (w.setCell q x).cell? p9 = some v9 ∧ (w.setCell q x).cell? p10 = some v10 := by
  obtain ⟨c0, c1, c2, c3, c4, c5, c6, c7, c8, c9, c10⟩ := h
  exact ⟨(World.cell?_setCell_far _ _ _ _ n0).trans c0, (World.cell?_setCell_far _ _ _ _ n1).trans c1, (World.cell?_setCell_far _ _ _ _ n2).trans c2, (World.cell?_setCell_far _ _ _ _ n3).trans c3, (World.cell?_setCell_far _ _ _ _ n4).trans c4, (World.cell?_setCell_far _ _ _ _ n5).trans c5, (World.cell?_setCell_far _ _ _ _ n6).trans c6, (World.cell?_setCell_far _ _ _ _ n7).trans c7, (World.cell?_setCell_far _ _ _ _ n8).trans c8, (World.cell?_setCell_far _ _ _ _ n9).trans c9, (World.cell?_setCell_far _ _ _ _ n10).trans c10⟩
theorem kG11 {p0 p1 p2 p3 p4 p5 p6 p7 p8 p9 p10 : Addr} {v0 v1 v2 v3 v4 v5 v6 v7 v8 v9 v10 : Value} {row : Option Nat} (hg : w.grownBy w' row) (n0 : some p0.block ≠ row) (n1 : some p1.block ≠ row) (n2 : some p2.block ≠ row) (n3 : some p3.block ≠ row) (n4 : some p4.block ≠ row) (n5 : some p5.block ≠ row) (n6 : some p6.block ≠ row) (n7 : some p7.block ≠ row) (n8 : some p8.block ≠ row) (n9 : some p9.block ≠ row) (n10 : some p10.block ≠ row) (h : w.cell? p0 = some v0 ∧ w.cell? p1 = some v1 ∧ w.cell? p2 = some v2 ∧ w.cell? p3 = some v3 ∧ w.cell? p4 = some v4 ∧ w.cell? p5 = some v5 ∧ w.cell? p6 = some v6 ∧ w.cell? p7 = some v7 ∧ w.cell? p8 = some v8 ∧ w.cell? p9 = some v9 ∧ w.cell? p10 = some v10) : w'.cell? p0 = some v0 ∧ w'.cell? p1 = some v1 ∧ w'.cell? p2 = some v2 ∧ w'.cell? p3 = some v3 ∧ w'.cell? p4 = some v4 ∧ w'.cell? p5 = some v5 ∧ w'.cell? p6 = some v6 ∧ w'.cell? p7 = some v7 ∧ w'.cell? p8 = some v8 ∧ w'.cell? p9 = some v9 ∧ w'.cell? p10 = some v10 := by
  obtain ⟨c0, c1, c2, c3, c4, c5, c6, c7, c8, c9, c10⟩ := h
  exact ⟨hg.cell c0 n0, hg.cell c1 n1, hg.cell c2 n2, hg.cell c3 n3, hg.cell c4 n4, hg.cell c5 n5, hg.cell c6 n6, hg.cell c7 n7, hg.cell c8 n8, hg.cell c9 n9, hg.cell c10 n10⟩
theorem kB12 {p0 p1 p2 p3 p4 p5 p6 p7 p8 p9 p10 p11 : Addr} {v0 v1 v2 v3 v4 v5 v6 v7 v8 v9 v10 v11 : Value} (hb : Below w.heap.size w w') (h : w.cell? p0 = some v0 ∧ w.cell? p1 = some v1 ∧ w.cell? p2 = some v2 ∧ w.cell? p3 = some v3 ∧ w.cell? p4 = some v4 ∧ w.cell? p5 = some v5 ∧ w.cell? p6 = some v6 ∧ w.cell? p7 = some v7 ∧ w.cell? p8 = some v8 ∧ w.cell? p9 = some v9 ∧ w.cell? p10 = some v10 ∧ w.cell? p11 = some v11) : w'.cell? p0 = some v0 ∧ w'.cell? p1 = some v1 ∧ w'.cell? p2 = some v2 ∧ w'.cell? p3 = some v3 ∧ w'.cell? p4 = some v4 ∧ w'.cell? p5 = some v5 ∧ w'.cell? p6 = some v6 ∧ w'.cell? p7 = some v7 ∧ w'.cell? p8 = some v8 ∧ w'.cell? p9 = some v9 ∧ w'.cell? p10 = some v10 ∧ w'.cell? p11 = some v11 := by
  obtain ⟨c0, c1, c2, c3, c4, c5, c6, c7, c8, c9, c10, c11⟩ := h
  exact ⟨kcell hb c0, kcell hb c1, kcell hb c2, kcell hb c3, kcell hb c4, kcell hb c5, kcell hb c6, kcell hb c7, kcell hb c8, kcell hb c9, kcell hb c10, kcell hb c11⟩
theorem kA12 {p0 p1 p2 p3 p4 p5 p6 p7 p8 p9 p10 p11 : Addr} {v0 v1 v2 v3 v4 v5 v6 v7 v8 v9 v10 v11 : Value} (o : Obj) (h : w.cell? p0 = some v0 ∧ w.cell? p1 = some v1 ∧ w.cell? p2 = some v2 ∧ w.cell? p3 = some v3 ∧ w.cell? p4 = some v4 ∧ w.cell? p5 = some v5 ∧ w.cell? p6 = some v6 ∧ w.cell? p7 = some v7 ∧ w.cell? p8 = some v8 ∧ w.cell? p9 = some v9 ∧ w.cell? p10 = some v10 ∧ w.cell? p11 = some v11) : (w.alloc o).cell? p0 = some v0 ∧ (w.alloc o).cell? p1 = some v1 ∧ (w.alloc o).cell? p2 = some v2 ∧ (w.alloc o).cell? p3 = some v3 ∧ (w.alloc o).cell? p4 = some v4 ∧ (w.alloc o).cell? p5 = some v5 ∧ (w.alloc o).cell? p6 = some v6 ∧ (w.alloc o).cell? p7 = some v7 ∧ (w.alloc o).cell? p8 = some v8 ∧ (w.alloc o).cell? p9 = some v9 ∧ (w.alloc o).cell? p10 = some v10 ∧ (w.alloc o).cell? p11 = some v11 := kB12 ((Below.refl _ _).alloc (Nat.le_refl _) _) h
theorem kS12 {p0 p1 p2 p3 p4 p5 p6 p7 p8 p9 p10 p11 q : Addr} {v0 v1 v2 v3 v4 v5 v6 v7 v8 v9 v10 v11 x : Value} (n0 : q.block ≠ p0.block) (n1 : q.block ≠ p1.block) (n2 : q.block ≠ p2.block) (n3 : q.block ≠ p3.block) (n4 : q.block ≠ p4.block) (n5 : q.block ≠ p5.block) (n6 : q.block ≠ p6.block) (n7 : q.block ≠ p7.block) (n8 : q.block ≠ p8.block) (n9 : q.block ≠ p9.block) (n10 : q.block ≠ p10.block) (n11 : q.block ≠ p11.block) (h : w.cell? p0 = some v0 ∧ w.cell? p1 = some v1 ∧ w.cell? p2 = some v2 ∧ w.cell? p3 = some v3 ∧ w.cell? p4 = some v4 ∧ w.cell? p5 = some v5 ∧ w.cell? p6 = some v6 ∧ w.cell? p7 = some v7 ∧ w.cell? p8 = some v8 ∧ w.cell? p9 = some v9 ∧ w.cell? p10 = some v10 ∧ w.cell? p11 = some v11) : (w.setCell q x).cell? p0 = some v0 ∧ (w.setCell q x).cell? p1 = some v1 ∧ (w.setCell q x).cell? p2 = some v2 ∧ (w.setCell q x).cell? p3 = some v3 ∧ (w.setCell q x).cell? p4 = some v4 ∧ (w.setCell q x).cell? p5 = some v5 ∧ (w.setCell q x).cell? p6 = some v6 ∧ (w.setCell q x).cell? p7 = some v7 ∧ (w.setCell q x).cell? p8 = some v8 ∧ (w.setCell q x).cell? p9 = some v9 ∧ (w.setCell q x).cell? p10 = some v10 ∧ (w.setCell q x).cell? p11 = some v11 := by
  obtain ⟨c0, c1, c2, c3, c4, c5, c6, c7, c8, c9, c10, c11⟩ := h
  exact ⟨(World.cell?_setCell_far _ _ _ _ n0).trans c0, (World.cell?_setCell_far _ _ _ _ n1).trans c1, (World.cell?_setCell_far _ _ _ _ n2).trans c2, (World.cell?_setCell_far _ _ _ _ n3).trans c3, (World.cell?_setCell_far _ _ _ _ n4).trans c4, (World.cell?_setCell_far _ _ _ _ n5).trans c5, (World.cell?_setCell_far _ _ _ _ n6).trans c6, (World.cell?_setCell_far _ _ _ _ n7).trans c7, (World.cell?_setCell_far _ _ _ _ n8).trans c8, (World.cell?_setCell_far _ _ _ _ n9).trans c9, (World.cell?_setCell_far _ _ _ _ n10).trans c10, (World.cell?_setCell_far _ _ _ _ n11).trans c11⟩
theorem kG12 {p0 p1 p2 p3 p4 p5 p6 p7 p8 p9 p10 p11 : Addr} {v0 v1 v2 v3 v4 v5 v6 v7 v8 v9 v10 v11 : Value} {row : Option Nat} (hg : w.grownBy w' row) (n0 : some p0.block ≠ row) (n1 : some p1.block ≠ row) (n2 : some p2.block ≠ row) (n3 : some p3.block ≠ row) (n4 : some p4.block ≠ row) (n5 : some p5.block ≠ row) (n6 : some p6.block ≠ row) (n7 : some p7.block ≠ row) (n8 : some p8.block ≠ row) (n9 : some p9.block ≠ row) (n10 : some p10.block ≠ row) (n11 : some p11.block ≠ row) (h : w.cell? p0 = some v0 ∧ w.cell? p1 = some v1 ∧ w.cell? p2 = some v2 ∧ w.cell? p3 = some v3 ∧ w.cell? p4 = some v4 ∧ w.cell? p5 = some v5 ∧ w.cell? p6 = some v6 ∧ w.cell? p7 = some v7 ∧ w.cell? p8 = some v8 ∧ w.cell? p9 = some v9 ∧ w.cell? p10 = some v10 ∧ w.cell? p11 = some v11) : w'.cell? p0 = some v0 ∧ w'.cell? p1 = some v1 ∧ w'.cell? p2 = some v2 ∧ w'.cell? p3 = some v3 ∧ w'.cell? p4 = some v4 ∧ w'.cell? p5 = some v5 ∧ w'.cell? p6 = some v6 ∧ w'.cell? p7 = some v7 ∧ w'.cell? p8 = some v8 ∧ w'.cell? p9 = some v9 ∧ w'.cell? p10 = some v10 ∧ w'.cell? p11 = some v11 := by
  obtain ⟨c0, c1, c2, c3, c4, c5, c6, c7, c8, c9, c10, c11⟩ := h
  exact ⟨hg.cell c0 n0, hg.cell c1 n1, hg.cell c2 n2, hg.cell c3 n3, hg.cell c4 n4, hg.cell c5 n5, hg.cell c6 n6, hg.cell c7 n7, hg.cell c8 n8, hg.cell c9 n9, hg.cell c10 n10, hg.cell c11 n11⟩
end
end Go.Proofs.Ytmlfkledhnlkeaa

/- A region that draws its order: loads come first under a condition S that is asked before its last operations alone (a store to a cell that the region loads). Over any program. -/
namespace Go.Proofs.Ytmlfkledhnlkeaa
set_option linter.unusedVariables false
set_option linter.unusedSimpArgs false
open Go.RowKit

section
variable {P : Program} {ops : Array Oper} {Q : Exit → Act → World → Prop} {md : Region.Mode} {S : World → Prop} {n : Nat}

/-- whatever order is picked; S holds behind each operation below n -/
def wpAnyF (P : Program) (md : Region.Mode) (ops : Array Oper) (Q : Exit → Act → World → Prop) (S : World → Prop) (n : Nat) : Nat → Array Bool → Act → World → Prop
  | 0, listed, a, w => Region.ready md ops listed = [] ∧ Q .normal a w
  | f + 1, listed, a, w => (Region.ready md ops listed = [] → Q .normal a w) ∧
    ∀ i ∈ Region.ready md ops listed, wpOp P ops Q i (fun a' w' => (i < n → S w') ∧ wpAnyF P md ops Q S n f (listed.setIfInBounds i true) a' w') a w
theorem F_any : ∀ (f : Nat) (listed : Array Bool) (a : Act) (w : World), wpAnyF P md ops Q S n f listed a w → wpAny P md ops Q f listed a w
  | 0, _, _, _, h => h
  | f + 1, _, _, _, h => ⟨h.1, fun i hi => wpOp_mono (fun _ _ h' => F_any f _ _ _ h'.2) (h.2 i hi)⟩
theorem F_first {i : Nat} {oi : Oper} {v : Value} (hi : ops[i]? = some oi) (hsel : ∀ (j : Nat) (o : Oper) cs b, ops[j]? = some o → o.op ≠ .select cs b) (hQ : ∀ c a w, Q (.panic c) (a.put oi.dst v) w → Q (.panic c) a w)
    (hs : Region.sinkB md ops n = true) (hc : Region.chainB md ops n = true) (hn : n < ops.size) (hin : i < n) : ∀ (f : Nat) (listed : Array Bool) (a : Act) (w : World), HeadInv md ops n listed →
      (∀ j oj, ops[j]? = some oj → j ≠ i → listed.getD j true = false → (∀ e ∈ oj.after, Region.binds md e = true → e.on ≠ i) → oi.apart ops oj = true) →
      i ∈ Region.ready md ops listed → YieldsIf P ops S oi v a → S w →
      wpAnyF P md ops Q S n f (listed.setIfInBounds i true) (a.put oi.dst v) w → wpAnyF P md ops Q S n (f + 1) listed a w := by
  intro f
  induction f with
  | zero =>
    intro listed a w inv _ hr hy hS H
    have hun := (mem_ready.1 hr).1
    refine ⟨fun h => (by rw [h] at hr; cases hr), fun j hj => ?_⟩
    by_cases hji : j = i
    · subst hji; exact hy.wpOp hi hS ⟨fun _ => hS, H⟩
    · have := ready_mono hj hji
      rw [H.1] at this
      cases this
  | succ f ih =>
    intro listed a w inv hfree hr hy hS H
    have hun := (mem_ready.1 hr).1
    refine ⟨fun h => (by rw [h] at hr; cases hr), fun j hj => ?_⟩
    have hjn : j < n := by
      rcases Nat.lt_or_ge j n with h | h
      · exact h
      · exact absurd hj (tail_waits hs hc hn inv _ i rfl hin hun j h)
    by_cases hji : j = i
    · subst hji; exact hy.wpOp hi hS ⟨fun _ => hS, H⟩
    · have h1 := H.2 j (ready_mono hj hji)
      obtain ⟨hjun, oj, hoj, hall⟩ := mem_ready.1 hj
      have hnot : ∀ e ∈ oj.after, Region.binds md e = true → e.on ≠ i := fun e he hb heq => by
        have h1 := hall e he hb
        rw [heq, getD_both hun] at h1
        cases h1
      have h2 := wpOp_putIf hoj (hfree j oj hoj hji hjun hnot) (fun cs b => hsel i oi cs b hi) (fun cs b => hsel j oj cs b hoj) hQ hy h1
      have hfree' : ∀ k ok, ops[k]? = some ok → k ≠ i → (listed.setIfInBounds j true).getD k true = false → (∀ e ∈ ok.after, Region.binds md e = true → e.on ≠ i) → oi.apart ops ok = true := fun k ok hk hki hun hno => by
        refine hfree k ok hk hki ?_ hno
        by_cases hjk : j = k
        · subst hjk; exact hjun
        · rw [getD_set_ne true hjk] at hun; exact hun
      refine wpOp_mono (fun a' w' h3 => ⟨h3.2.1, ih (listed.setIfInBounds j true) a' w' (inv.set hj hjn) hfree' (ready_mono hr (Ne.symm hji)) h3.1 (h3.2.1 hjn) ?_⟩) h2
      rw [Array.setIfInBounds_comm _ _ hji]
      exact h3.2.2
theorem F_take {i : Nat} {oi : Oper} {v : Value} {f : Nat} {listed : Array Bool} {a : Act} {w : World} (hi : ops[i]? = some oi) (hB : (Region.noSelect ops && Region.sinkB md ops n && Region.chainB md ops n && decide (n < ops.size) && decide (i < n)) = true)
    (hf : Region.free md ops listed i = true) (hr : (Region.ready md ops listed).contains i = true) (hQ : ∀ c a w, Q (.panic c) (a.put oi.dst v) w → Q (.panic c) a w) (inv : HeadInv md ops n listed) (hy : YieldsIf P ops S oi v a) (hS : S w)
    (h : HeadInv md ops n (listed.setIfInBounds i true) → wpAnyF P md ops Q S n f (listed.setIfInBounds i true) (a.put oi.dst v) w) : wpAnyF P md ops Q S n (f + 1) listed a w := by
  simp only [Bool.and_eq_true, decide_eq_true_eq] at hB
  obtain ⟨⟨⟨⟨h1, h2⟩, h3⟩, h4⟩, h5⟩ := hB
  have hr' : i ∈ Region.ready md ops listed := by simpa using hr
  exact F_first hi (Region.noSelect_spec h1) hQ h2 h3 h4 h5 f listed a w inv (Region.free_spec hi hf) hr' hy hS (h (inv.set hr' h5))
/-- the only one that may come up: an operation below n -/
theorem F_one {i : Nat} {oi : Oper} {f : Nat} {listed : Array Bool} {a : Act} {w : World} (hr : Region.ready md ops listed = [i]) (hi : ops[i]? = some oi) (hg : oi.guard = none) (hin : i < n) (inv : HeadInv md ops n listed)
    (h : ∀ K : Act → World → Prop, Shut (∀ a' w', S w' → (S w' → HeadInv md ops n (listed.setIfInBounds i true) → wpAnyF P md ops Q S n f (listed.setIfInBounds i true) a' w') → K a' w') → Oper.wp P oi a w K Q) : wpAnyF P md ops Q S n (f + 1) listed a w := by
  refine ⟨fun h0 => (by rw [hr] at h0; cases h0), fun j hj => ?_⟩
  have hj2 := hj
  rw [hr] at hj2
  obtain rfl : j = i := by simpa using hj2
  have hw : Region.wanted oi (yielded ops a.tmps) = true := by simp [Region.wanted, hg]
  unfold wpOp
  simp only [hi, hw, if_true]
  exact .inl (h _ (fun a' w' hS hF => ⟨fun _ => hS, hF hS (inv.set hj hin)⟩))
/-- the last one -/
theorem F_last {i : Nat} {oi : Oper} {f : Nat} {listed : Array Bool} {a : Act} {w : World} (hr : Region.ready md ops listed = [i]) (hi : ops[i]? = some oi) (hg : oi.guard = none) (hin : n ≤ i) (he : Region.ready md ops (listed.setIfInBounds i true) = [])
    (h : ∀ K : Act → World → Prop, (∀ a' w', Q .normal a' w' → K a' w') → Oper.wp P oi a w K Q) : wpAnyF P md ops Q S n (f + 1) listed a w := by
  refine ⟨fun h0 => (by rw [hr] at h0; cases h0), fun j hj => ?_⟩
  rw [hr] at hj
  obtain rfl : j = i := by simpa using hj
  have hw : Region.wanted oi (yielded ops a.tmps) = true := by simp [Region.wanted, hg]
  unfold wpOp
  simp only [hi, hw, if_true]
  refine .inl (h _ (fun a' w' hq => ⟨fun h => absurd h (by omega), ?_⟩))
  cases f with
  | zero => exact ⟨he, hq⟩
  | succ f => exact ⟨fun _ => hq, by rw [he]; simp⟩
/-- two that may come up -/
theorem F_two {i j : Nat} {oi oj : Oper} {f : Nat} {listed : Array Bool} {a : Act} {w : World} (hr : Region.ready md ops listed = [i, j]) (hi : ops[i]? = some oi) (hj : ops[j]? = some oj) (hgi : oi.guard = none) (hgj : oj.guard = none) (hin : i < n ∧ j < n) (inv : HeadInv md ops n listed)
    (h1 : ∀ K : Act → World → Prop, Shut (∀ a' w', S w' → (S w' → HeadInv md ops n (listed.setIfInBounds i true) → wpAnyF P md ops Q S n f (listed.setIfInBounds i true) a' w') → K a' w') → Oper.wp P oi a w K Q)
    (h2 : ∀ K : Act → World → Prop, Shut (∀ a' w', S w' → (S w' → HeadInv md ops n (listed.setIfInBounds j true) → wpAnyF P md ops Q S n f (listed.setIfInBounds j true) a' w') → K a' w') → Oper.wp P oj a w K Q) : wpAnyF P md ops Q S n (f + 1) listed a w := by
  refine ⟨fun h0 => (by rw [hr] at h0; cases h0), fun k hk => ?_⟩
  have hk2 := hk
  rw [hr] at hk2
  simp only [List.mem_cons, List.not_mem_nil, or_false] at hk2
  rcases hk2 with rfl | rfl
  · have hw : Region.wanted oi (yielded ops a.tmps) = true := by simp [Region.wanted, hgi]
    unfold wpOp
    simp only [hi, hw, if_true]
    exact .inl (h1 _ (fun a' w' hS hF => ⟨fun _ => hS, hF hS (inv.set hk hin.1)⟩))
  · have hw : Region.wanted oj (yielded ops a.tmps) = true := by simp [Region.wanted, hgj]
    unfold wpOp
    simp only [hj, hw, if_true]
    exact .inl (h2 _ (fun a' w' hS hF => ⟨fun _ => hS, hF hS (inv.set hk hin.2)⟩))
/-- one of the chain at the end, not the last -/
theorem F_tail {i : Nat} {oi : Oper} {f : Nat} {listed : Array Bool} {a : Act} {w : World} (hr : Region.ready md ops listed = [i]) (hi : ops[i]? = some oi) (hg : oi.guard = none) (hin : n ≤ i)
    (h : ∀ K : Act → World → Prop, Shut (∀ a' w', wpAnyF P md ops Q S n f (listed.setIfInBounds i true) a' w' → K a' w') → Oper.wp P oi a w K Q) : wpAnyF P md ops Q S n (f + 1) listed a w := by
  refine ⟨fun h0 => (by rw [hr] at h0; cases h0), fun j hj => ?_⟩
  rw [hr] at hj
  obtain rfl : j = i := by simpa using hj
  have hw : Region.wanted oi (yielded ops a.tmps) = true := by simp [Region.wanted, hg]
  unfold wpOp
  simp only [hi, hw, if_true]
  exact .inl (h _ (fun a' w' hF => ⟨fun hlt => absurd hlt (by omega), hF⟩))
theorem F_start {id : Nat} {a : Act} {w : World} (n : Nat) (S : World → Prop) (hm : P.follows .mixedOrders = true) (hS : S w.drew)
    (h : S w.drew → HeadInv .any ops n (Array.replicate ops.size false) → wpAnyF P .any ops Q S n ops.size (Array.replicate ops.size false) a w.drew) : (Code.region id ops true).wp P Q a w :=
  wp_region_any hm (F_any _ _ _ _ (h hS ⟨by simp, fun j oj _ hl => (by rw [getD_replicate_false] at hl; cases hl), fun t _ ht => getD_in (by simpa using ht) (getD_replicate_false _ _)⟩))

/-- append(s, x): as an operation by itself; the one element lies in block H -/
theorem op_append1 {w : World} {α : Type} (E : α → List Value) {o : Oper} {a : Act} {K : Act → World → Prop} {t e : TypeId} {z : Value} {k bytes : Nat} (el : ElemOk P t e z k bytes) (hgd : o.guard = none) (s y : Operand)
    (ho : o.op = .call { callee := .builtin .append, args := #[s, y], argTypes := #[t, t] })
    (base : Nat) (v : Value) (xs : List α) (x : α) (c H : Nat) (hs : a.eval s = v) (hown : w.ownsRow base e k v xs.length (xs.flatMap E)) (hy : a.eval y = .slice (some ⟨H, 0, none⟩) 1 c)
    (hH : w.heap[H]? = some (.cells (E x).toArray e (0, 0))) (hE : (E x).length = k) (h1 : ∀ u ∈ E x, u.oneCell' = true) (hbytes : (xs.length + 1) * bytes ≤ 140737488355328) (hb0 : 0 < bytes) (hbase : base ≤ w.heap.size)
    (h : ∀ g cap w', w'.ownsRow base e k (.slice (some ⟨g, 0, none⟩) (xs.length + 1) cap) (xs ++ [x]).length ((xs ++ [x]).flatMap E) → w.grownBy w' v.ownBlock → (v.ownBlock = some g ∨ w.heap.size ≤ g) → g < w'.heap.size →
      K (a.put o.dst (.slice (some ⟨g, 0, none⟩) (xs.length + 1) cap)) w') : Oper.wp P o a w K Q := by
  have h2 := step_append1 (ops := #[]) (EE := True) (Q := Q) (K := K) E el hgd s y ho base v xs x c H hs hown hy hH hE h1 hbytes hb0 hbase h
  have hw : Region.wanted o (yielded #[] a.tmps) = true := by simp [Region.wanted, hgd]
  rwa [if_pos hw] at h2
/-- the same at the head of a list of operations -/
theorem wpList_append2 {w : World} {α : Type} (E : α → List Value) {rest : List Oper} {o : Oper} {a : Act} {t e : TypeId} {z : Value} {k bytes : Nat} (el : ElemOk P t e z k bytes) (hgd : o.guard = none) (s y : Operand)
    (ho : o.op = .call { callee := .builtin .append, args := #[s, y], argTypes := #[t, t] })
    (base : Nat) (v : Value) (xs : List α) (x : α) (c H : Nat) (hs : a.eval s = v) (hown : w.ownsRow base e k v xs.length (xs.flatMap E)) (hy : a.eval y = .slice (some ⟨H, 0, none⟩) 1 c)
    (hH : w.heap[H]? = some (.cells (E x).toArray e (0, 0))) (hE : (E x).length = k) (h1 : ∀ u ∈ E x, u.oneCell' = true) (hbytes : (xs.length + 1) * bytes ≤ 140737488355328) (hb0 : 0 < bytes) (hbase : base ≤ w.heap.size)
    (h : ∀ g cap w', w'.ownsRow base e k (.slice (some ⟨g, 0, none⟩) (xs.length + 1) cap) (xs ++ [x]).length ((xs ++ [x]).flatMap E) → w.grownBy w' v.ownBlock → (v.ownBlock = some g ∨ w.heap.size ≤ g) → g < w'.heap.size →
      wpList P ops Q rest (a.put o.dst (.slice (some ⟨g, 0, none⟩) (xs.length + 1) cap)) w') : wpList P ops Q (o :: rest) a w :=
  wpList_plain hgd fun _ hK => op_append1 E el hgd s y ho base v xs x c H hs hown hy hH hE h1 hbytes hb0 hbase fun g cap w' h2 h3 h4 h5 => hK _ _ (h g cap w' h2 h3 h4 h5)
end
end Go.Proofs.Ytmlfkledhnlkeaa

