/- Parts of the proof, joined into one text: Rows2, Nest, HeldL, AppL, AscM, Reslice, SortI, WalkM, MatchM. -/
import Derived.Test.YtmlfkledhnlkeaaPartAB
import Derived.Test.YtmlfkledhnlkeaaPartAD
import Derived.Deep.RegionHeld3
import Derived.Deep.AppendLies
import Derived.Lib.SlicesCompact
/- A slice of slices that the call itself made and fills row by row; appending in a region that draws its order. Over any program. -/
namespace Go.Proofs.Ytmlfkledhnlkeaa
set_option linter.unusedVariables false
set_option linter.unusedSimpArgs false
open Go.ChangeShapes Go.WideShapes Go.ChangeAt Go.RowKit

section
variable {α : Type} {w w' : World} {base : Nat} {oT rT e : TypeId} {E : α → List Value} {k : Nat} {g : Nat} {hs : List Value} {xss : List (List α)} {v : Value} {n : Nat} {cs : List Value}
theorem ownsRow_block (h : w.ownsRow base e k v n cs) (hb : ∀ g, v.ownBlock = some g → w'.heap[g]? = w.heap[g]?) : w'.ownsRow base e k v n cs := by
  obtain ⟨hl, h⟩ := h
  refine ⟨hl, ?_⟩
  rcases h with h | ⟨g, cap, cur, rfl, hg, hh, r⟩
  · exact .inl h
  · exact .inr ⟨g, cap, cur, rfl, hg, (hb g rfl).trans hh, r⟩
theorem ownsRow_mono (h : w.ownsRow base e k v n cs) {b : Nat} (hb : b ≤ base) : w.ownsRow b e k v n cs := by
  obtain ⟨hl, h⟩ := h
  refine ⟨hl, ?_⟩
  rcases h with h | ⟨g, cap, cur, rfl, hg, r⟩
  · exact .inl h
  · exact .inr ⟨g, cap, cur, rfl, by omega, r⟩

structure Rws {α : Type} (w : World) (base : Nat) (oT rT : TypeId) (E : α → List Value) (k : Nat) (g : Nat) (hs : List Value) (xss : List (List α)) : Prop where
  own : w.ownsRow g oT 1 (.slice (some ⟨g, 0, none⟩) hs.length hs.length) hs.length hs
  len : hs.length = xss.length
  row : ∀ (i : Nat) (h : Value) (xs : List α), hs[i]? = some h → xss[i]? = some xs → w.ownsRow base rT k h xs.length (xs.flatMap E)
  far : ∀ (i : Nat) (h : Value), hs[i]? = some h → h.ownBlock ≠ some g
  apart : ∀ (i j : Nat) (h h' : Value), i ≠ j → hs[i]? = some h → hs[j]? = some h' → h.ownBlock = none ∨ h.ownBlock ≠ h'.ownBlock
theorem Rws.blocks (h : Rws w base oT rT E k g hs xss) (hb : ∀ b, (b = g ∨ base ≤ b) → b < w.heap.size → w'.heap[b]? = w.heap[b]?) : Rws w' base oT rT E k g hs xss := by
  refine ⟨ownsRow_block h.own fun b hb' => hb b (.inl (by simpa [Value.ownBlock] using hb'.symm)) (h.own.lt b hb').2, h.len, fun i v xs hi hx => ?_, h.far, h.apart⟩
  have := h.row i v xs hi hx
  exact ownsRow_block this fun b hb' => hb b (.inr (this.lt b hb').1) (this.lt b hb').2
theorem Rws.below (h : Rws w base oT rT E k g hs xss) (hb : Below w.heap.size w w') : Rws w' base oT rT E k g hs xss := h.blocks fun b _ hlt => hb.block b hlt
theorem Rws.gLt (h : Rws w base oT rT E k g hs xss) : g ≤ g ∧ g < w.heap.size := h.own.lt g rfl
theorem Rws.cell (h : Rws w base oT rT E k g hs xss) {i : Nat} {v : Value} (hi : hs[i]? = some v) : w.cell? ⟨g, i, none⟩ = some v :=
  (World.ownsRow.cellAt h.own i (by have := (List.getElem?_eq_some_iff.1 hi).1; omega)).trans hi
theorem Rws.frozen (h : Rws w base oT rT E k g hs xss) (i : Nat) : w.frozen? ⟨g, i, none⟩ = false := World.ownsRow.frozenAt h.own i
theorem Rws.made (h : w.ownsRow g oT 1 (.slice (some ⟨g, 0, none⟩) n n) n ((List.replicate n (Value.slice none 0 0)).flatMap cV)) : Rws w base oT rT E k g (List.replicate n (.slice none 0 0)) (List.replicate n ([] : List α)) := by
  have hf : ∀ n, (List.replicate n (Value.slice none 0 0)).flatMap cV = List.replicate n (.slice none 0 0) := by
    intro n
    induction n with
    | zero => rfl
    | succ n ih => rw [List.replicate_succ, List.flatMap_cons, ih]; rfl
  have hv : ∀ {i : Nat} {h : Value}, (List.replicate n (Value.slice none 0 0))[i]? = some h → h = .slice none 0 0 := by
    intro i h hi
    rw [List.getElem?_replicate] at hi
    split at hi
    · injection hi with hi; exact hi.symm
    · cases hi
  rw [hf] at h
  refine ⟨by simpa using h, by simp, fun i h xs hi hx => ?_, fun i h hi => ?_, fun i j h h' _ hi _ => .inl ?_⟩
  · have := hv hi
    subst this
    have hx' : xs = [] := by
      rw [List.getElem?_replicate] at hx
      split at hx
      · injection hx with hx; exact hx.symm
      · cases hx
    subst hx'
    exact World.ownsRow_nil w base rT k
  · have := hv hi
    subst this
    simp [Value.ownBlock]
  · have := hv hi
    subst this
    rfl
/-- row i grows by x: the append law's words, then the store of the new header -/
theorem Rws.push (h : Rws w base oT rT E k g hs xss) {i : Nat} {hv : Value} {xs : List α} {x : α} {v' : Value} {g2 : Nat} (hi : hs[i]? = some hv) (hx : xss[i]? = some xs)
    (hown : w'.ownsRow base rT k v' (xs ++ [x]).length ((xs ++ [x]).flatMap E)) (hg : w.grownBy w' hv.ownBlock) (hv' : v'.ownBlock = some g2) (hat : hv.ownBlock = some g2 ∨ w.heap.size ≤ g2) :
    Rws (w'.setCell ⟨g, i, none⟩ v') base oT rT E k g (hs.set i v') (xss.set i (xs ++ [x])) := by
  have hgl := h.gLt
  have hil := (List.getElem?_eq_some_iff.1 hi).1
  have hfar := h.far i hv hi
  have hg2 : g2 ≠ g := by
    rcases hat with h1 | h1
    · intro e; subst e; exact hfar h1
    · omega
  have hset : ∀ b, b ≠ g → (w'.setCell ⟨g, i, none⟩ v').heap[b]? = w'.heap[b]? := fun b hb => Below.heap_setCell _ _ _ _ hb
  have ho1 : w'.ownsRow g oT 1 (.slice (some ⟨g, 0, none⟩) hs.length hs.length) hs.length hs := h.own.kept hg (.inr (by simpa [Value.ownBlock] using Ne.symm hfar))
  have ho2 := (World.ownsRow.stored ho1 i v').1
  refine ⟨by simpa using ho2, by simp [h.len], fun j u ys hj hy => ?_, fun j u hj => ?_, fun j l u u' hjl hj hl => ?_⟩
  · rw [List.getElem?_set] at hj hy
    by_cases e : i = j
    · subst e
      rw [if_pos rfl] at hj hy
      rw [if_pos hil] at hj
      rw [if_pos (by rw [← h.len]; exact hil)] at hy
      injection hj with hj
      injection hy with hy
      subst hj hy
      exact ownsRow_block hown fun b hb => hset b (by rw [hv'] at hb; injection hb with hb; omega)
    · rw [if_neg e] at hj hy
      have hr := h.row j u ys hj hy
      have hr2 : w'.ownsRow base rT k u ys.length (ys.flatMap E) := hr.kept hg (h.apart j i u hv (Ne.symm e) hj hi)
      exact ownsRow_block hr2 fun b hb => hset b (by intro e2; subst e2; exact h.far j u hj hb)
  · rw [List.getElem?_set] at hj
    by_cases e : i = j
    · subst e
      rw [if_pos rfl, if_pos hil] at hj
      injection hj with hj
      subst hj
      rw [hv']
      simpa using hg2
    · rw [if_neg e] at hj
      exact h.far j u hj
  · have hold : ∀ (j : Nat) (u : Value), j ≠ i → hs[j]? = some u → u.ownBlock = none ∨ u.ownBlock ≠ some g2 := by
      intro j u hji hj
      rcases hat with h1 | h1
      · rcases h.apart j i u hv hji hj hi with h2 | h2
        · exact .inl h2
        · rw [h1] at h2; exact .inr h2
      · cases hu : u.ownBlock with
        | none => exact .inl rfl
        | some b =>
          refine .inr ?_
          have hjl := (List.getElem?_eq_some_iff.1 hj).1
          have hjx : j < xss.length := by rw [← h.len]; exact hjl
          have hr := h.row j u xss[j] hj (List.getElem?_eq_getElem hjx)
          have := (hr.lt b hu).2
          simp only [ne_eq, Option.some.injEq]
          omega
    rw [List.getElem?_set] at hj hl
    by_cases e : i = j
    · subst e
      rw [if_neg hjl] at hl
      rw [if_pos rfl, if_pos hil] at hj
      injection hj with hj
      subst hj
      refine .inr ?_
      rw [hv']
      rcases hold l u' (Ne.symm hjl) hl with h1 | h1
      · rw [h1]; simp
      · exact Ne.symm h1
    · rw [if_neg e] at hj
      by_cases e2 : i = l
      · subst e2
        rw [if_pos rfl, if_pos hil] at hl
        injection hl with hl
        subst hl
        rw [hv']
        exact hold j u (Ne.symm e) hj
      · rw [if_neg e2] at hl
        exact h.apart j l u u' hjl hj hl

/-- a slice of slices of E's that is only read; its blocks lie from lo to hi -/
def SSE {α : Type} (lo hi : Nat) (w : World) (E : α → List Value) (k : Nat) (v : Value) (xss : List (List α)) : Prop :=
  ∃ A c, v = .slice A xss.length c ∧ xss.length ≤ c ∧ c ≤ 9223372036854775807 ∧
    ∀ (i : Nat) (xs : List α), xss[i]? = some xs → ∃ b o u, A = some ⟨b, o, none⟩ ∧ lo ≤ b ∧ b < hi ∧ w.cell? ⟨b, o + i, none⟩ = some u ∧ SlI lo hi w E k u xs
theorem SSE.keep_ {lo hi : Nat} {v : Value} (h : SSE lo hi w E k v xss) (hb : ∀ b o, lo ≤ b → b < hi → w'.cell? ⟨b, o, none⟩ = w.cell? ⟨b, o, none⟩) : SSE lo hi w' E k v xss := by
  obtain ⟨A, c, h1, h2, h3, h4⟩ := h
  refine ⟨A, c, h1, h2, h3, fun i xs hx => ?_⟩
  obtain ⟨b, o, u, g1, g2, g3, g4, g5⟩ := h4 i xs hx
  exact ⟨b, o, u, g1, g2, g3, (hb _ _ g2 g3).trans g4, g5.keep_ hb⟩
theorem SSE.below {lo hi : Nat} {v : Value} (h : SSE lo hi w E k v xss) {B : Nat} (hb : Below B w w') (hB : hi ≤ B) : SSE lo hi w' E k v xss := h.keep_ fun b o _ h2 => hb.cell (p := ⟨b, o, none⟩) (show b < B by omega)
theorem SSE.only {lo hi l r : Nat} {v : Value} (h : SSE lo hi w E k v xss) (hb : Only l r w w') (hh : hi ≤ w.heap.size) (ho : hi ≤ l ∨ r ≤ lo) : SSE lo hi w' E k v xss :=
  h.keep_ fun b o h1 h2 => hb.cell (p := ⟨b, o, none⟩) (show b < _ by omega) (show b < l ∨ r ≤ b by omega)
theorem SSE.mono {lo hi lo' hi' : Nat} {v : Value} (h : SSE lo hi w E k v xss) (h1 : lo' ≤ lo) (h2 : hi ≤ hi') : SSE lo' hi' w E k v xss := by
  obtain ⟨A, c, e1, e2, e3, h4⟩ := h
  refine ⟨A, c, e1, e2, e3, fun i xs hx => ?_⟩
  obtain ⟨b, o, u, g1, g2, g3, g4, g5⟩ := h4 i xs hx
  exact ⟨b, o, u, g1, by omega, by omega, g4, g5.mono h1 h2⟩
theorem SSE.keep {v : Value} (h : SSE 0 w.heap.size w E k v xss) (hb : Below w.heap.size w w') : SSE 0 w'.heap.size w' E k v xss := (h.below hb (Nat.le_refl _)).mono (Nat.le_refl _) hb.size
theorem SSE.shape {lo hi : Nat} {v : Value} (h : SSE lo hi w E k v xss) : ∃ A c, v = .slice A xss.length c ∧ xss.length ≤ c ∧ c ≤ 9223372036854775807 := by
  obtain ⟨A, c, e1, e2, e3, _⟩ := h
  exact ⟨A, c, e1, e2, e3⟩
/-- row i, as a walk wants it -/
theorem SSE.row {lo hi : Nat} {A : Option Addr} {n c : Nat} (h : SSE lo hi w E k (.slice A n c) xss) (hh : hi ≤ w.heap.size) {i : Nat} {xs : List α} (hx : xss[i]? = some xs) :
    ∃ b o A3 c3, A = some ⟨b, o, none⟩ ∧ lo ≤ b ∧ b < hi ∧ w.cell? ⟨b, o + i, none⟩ = some (.slice A3 xs.length c3) ∧ xs.length ≤ c3 ∧ c3 ≤ 9223372036854775807 ∧ SlI lo hi w E k (.slice A3 xs.length c3) xs ∧ SlC w.heap.size w E k A3 xs := by
  obtain ⟨A', c', e1, e2, e3, h4⟩ := h
  obtain ⟨b, o, u, g1, g2, g3, g4, g5⟩ := h4 i xs hx
  injection e1 with e1 _ _
  subst e1
  obtain ⟨A3, c3, rfl, f1, f2, f3⟩ := SlE.form (g5.all hh)
  exact ⟨b, o, A3, c3, g1, g2, g3, g4, f1, f2, g5, f3⟩
theorem Rws.sse (h : Rws w base oT rT E k g hs xss) (hE : ∀ x, (E x).length = k) {lo : Nat} (h1 : lo ≤ g) (h2 : lo ≤ base) : SSE lo w.heap.size w E k (.slice (some ⟨g, 0, none⟩) hs.length hs.length) xss := by
  have hgl := h.gLt
  refine ⟨some ⟨g, 0, none⟩, hs.length, by rw [h.len], by rw [h.len]; exact Nat.le_refl _, ?_, fun i xs hx => ?_⟩
  · obtain ⟨_, h1⟩ := h.own
    rcases h1 with ⟨h1, _⟩ | ⟨g', cap, cur, h1, _, _, h2, h3, _⟩
    · cases h1
    · unfold maxLen at h3
      omega
  · have hil := (List.getElem?_eq_some_iff.1 hx).1
    have hih : i < hs.length := by rw [h.len]; exact hil
    have hi : hs[i]? = some hs[i] := List.getElem?_eq_getElem hih
    have hr : Own base w.heap.size w rT E k hs[i] xs := ⟨h.row i _ xs hi hx, fun g hg => ((h.row i _ xs hi hx).lt g hg).2⟩
    exact ⟨g, 0, hs[i], rfl, h1, hgl.2, by rw [Nat.zero_add, h.cell hi], (hr.sl hE).mono h2 (Nat.le_refl _)⟩
end

section
variable {P : Program} {w : World}
/-- append(s, x) at a step of a region that draws its order; the one element lies in block H -/
theorem step_append1 {α : Type} (E : α → List Value) {ops : Array Oper} {o : Oper} {a : Act} {K : Act → World → Prop} {Q : Exit → Act → World → Prop} {EE : Prop} {t e : TypeId} {z : Value} {k bytes : Nat} (el : ElemOk P t e z k bytes)
    (hgd : o.guard = none) (s y : Operand) (ho : o.op = .call { callee := .builtin .append, args := #[s, y], argTypes := #[t, t] })
    (base : Nat) (v : Value) (xs : List α) (x : α) (c H : Nat) (hs : a.eval s = v) (hown : w.ownsRow base e k v xs.length (xs.flatMap E)) (hy : a.eval y = .slice (some ⟨H, 0, none⟩) 1 c)
    (hH : w.heap[H]? = some (.cells (E x).toArray e (0, 0))) (hE : (E x).length = k) (h1 : ∀ u ∈ E x, u.oneCell' = true) (hbytes : (xs.length + 1) * bytes ≤ 140737488355328) (hb0 : 0 < bytes) (hbase : base ≤ w.heap.size)
    (h : ∀ g cap w', w'.ownsRow base e k (.slice (some ⟨g, 0, none⟩) (xs.length + 1) cap) (xs ++ [x]).length ((xs ++ [x]).flatMap E) → w.grownBy w' v.ownBlock → (v.ownBlock = some g ∨ w.heap.size ≤ g) → g < w'.heap.size →
      K (a.put o.dst (.slice (some ⟨g, 0, none⟩) (xs.length + 1) cap)) w') :
    if Region.wanted o (yielded ops a.tmps) = true then Oper.wp P o a w K Q else EE := by
  obtain ⟨i, hi, hz0, hz1, hz2⟩ := info_parts el.info
  have hlen : xs.length + 1 ≤ 140737488355328 := Nat.le_trans (Nat.le_mul_of_pos_right _ hb0) hbytes
  refine step_append_lies w hgd s y t ho base e i z k bytes el.und hi hz0 hz1 hz2 el.zc el.pos v xs.length (xs.flatMap E) hs hown ⟨H, 0, none⟩ 1 c (E x) hy (by rw [hE, Nat.one_mul])
    (by have := World.news_of_block hH; simpa using this) h1 (by omega) (by unfold maxLen; omega) hbytes hbase w.heap.size rfl fun g cap w' h2 h3 h4 h5 => ?_
  refine h g cap w' (by simpa using h2) h3 ?_ h5
  rcases h4 with h4 | h4
  · exact .inl h4
  · exact .inr (by omega)
end
theorem ocell {lo hi : Nat} {w w' : World} (h : Only lo hi w w') {b o : Nat} {v : Value} (hc : w.cell? ⟨b, o, none⟩ = some v) (hb : b < w.heap.size) (ho : b < lo ∨ hi ≤ b) : w'.cell? ⟨b, o, none⟩ = some v := (h.cell (p := ⟨b, o, none⟩) hb ho).trans hc
theorem SlI.nat {lo hi : Nat} {w : World} {A : Option Addr} {n c : Nat} {xs : List Nat} (h : SlI lo hi w cN 1 (.slice A n c) xs) {i : Nat} {x : Nat} (hx : xs[i]? = some x) :
    ∃ b o, A = some ⟨b, o, none⟩ ∧ lo ≤ b ∧ b < hi ∧ w.cell? ⟨b, o + i, none⟩ = some (.int .i64 (x : Int)) := by
  obtain ⟨A', c', hv, _, _, h3⟩ := h
  injection hv with h1 _ _
  subst h1
  obtain ⟨b, o, e, g1, g2, hc⟩ := h3 i x hx
  exact ⟨b, o, e, g1, g2, by simpa using hc 0 _ rfl⟩
/-- an append to a row, then the store of its header: only that row's block and the header block have turned -/
theorem Only.pushed {lo hi g i : Nat} {a w w' : World} {row : Option Nat} {u : Value} (h : Only lo hi a w) (hg : w.grownBy w' row) (hr : ∀ b, row = some b → (lo ≤ b ∧ b < hi) ∨ a.heap.size ≤ b) (hgb : (lo ≤ g ∧ g < hi) ∨ a.heap.size ≤ g) : Only lo hi a (w'.setCell ⟨g, i, none⟩ u) :=
  Only.setCell ⟨hg.os.trans h.os, hg.tape.trans h.tape, hg.output.trans h.output, Nat.le_trans h.size hg.size, fun n hn ho => (hg.block n (Nat.lt_of_lt_of_le hn h.size) (fun e => by have := hr n e.symm; omega)).trans (h.block n hn ho)⟩ hgb _
theorem flatI_at {xs : List Int} {t : Nat} {x : Int} (h : xs[t]? = some x) : (xs.flatMap cI)[t]? = some (.int .i64 x) := by
  have := flat_at cI_len h 0 _ rfl
  simpa using this
theorem flatI_set (xs : List Int) (t : Nat) (x : Int) : (xs.flatMap cI).set t (.int .i64 x) = (xs.set t x).flatMap cI := by
  induction xs generalizing t with
  | nil => simp
  | cons y xs ih =>
    cases t with
    | zero => rfl
    | succ t =>
      have := ih t
      simp only [List.set_cons_succ, List.flatMap_cons, cI, List.cons_append, List.nil_append] at this ⊢
      rw [this]
theorem getD_of {D : List Int} {k : Nat} (h : k < D.length) : D[k]? = some (D.getD k 0) := by
  simp [List.getD, List.getElem?_eq_getElem h]
end Go.Proofs.Ytmlfkledhnlkeaa

/- Rows of rows of the call's own, told by the blocks that they hold: an outer row of slices, each of them a row of its own, no two in one block. Over any program. -/
namespace Go.Proofs.Ytmlfkledhnlkeaa
set_option linter.unusedVariables false
set_option linter.unusedSimpArgs false
open Go.ChangeShapes Go.WideShapes Go.ChangeAt Go.RowKit

section
variable {H b o : Nat} {w : World}
theorem SlC.intA {xs : List Int} (h : SlC H w cI 1 (some ⟨b, o, none⟩) xs) {i : Nat} {x : Int} (hx : xs[i]? = some x) : b < H ∧ w.cell? ⟨b, o + i, none⟩ = some (.int .i64 x) := by
  obtain ⟨b', o', e, h1, h2⟩ := h.int hx
  injection e with e
  injection e with e1 e2
  subst e1 e2
  exact ⟨h1, h2⟩
theorem SlC.natA {xs : List Nat} (h : SlC H w cN 1 (some ⟨b, o, none⟩) xs) {i : Nat} {x : Nat} (hx : xs[i]? = some x) : b < H ∧ w.cell? ⟨b, o + i, none⟩ = some (.int .i64 (x : Int)) := by
  obtain ⟨b', o', e, h1, h2⟩ := h.nat hx
  injection e with e
  injection e with e1 e2
  subst e1 e2
  exact ⟨h1, h2⟩
theorem SlC.stA {xs : List St} (h : SlC H w cSt 2 (some ⟨b, o, none⟩) xs) {i : Nat} {x : St} (hx : xs[i]? = some x) : b < H ∧ w.cell? ⟨b, o + i * 2, none⟩ = some (.int .i64 x.1) ∧ w.cell? ⟨b, o + i * 2 + 1, none⟩ = some (.bool x.2) := by
  obtain ⟨b', o', e, h1, h2, h3⟩ := h.st hx
  injection e with e
  injection e with e1 e2
  subst e1 e2
  exact ⟨h1, h2, h3⟩
end
theorem flatCV (l : List Value) : l.flatMap cV = l := by
  induction l with
  | nil => rfl
  | cons x l ih => rw [List.flatMap_cons, ih]; rfl
/-- the blocks that slices hold -/
abbrev blks (us : List Value) : List Nat := us.filterMap Value.ownBlock
structure NS {α : Type} (lo : Nat) (w : World) (oT eT : TypeId) (E : α → List Value) (k : Nat) (v : Value) (us : List Value) (xss : List (List α)) : Prop where
  own : w.ownsRow lo oT 1 v us.length (us.flatMap cV)
  len : us.length = xss.length
  rows : ∀ (i : Nat) (u : Value) (xs : List α), us[i]? = some u → xss[i]? = some xs → w.ownsRow lo eT k u xs.length (xs.flatMap E)
  dis : (blks (v :: us)).Nodup
section
variable {α : Type} {lo : Nat} {w w' : World} {oT eT : TypeId} {E : α → List Value} {k : Nat} {v : Value} {us : List Value} {xss : List (List α)}
theorem mem_blks {us : List Value} {b : Nat} : b ∈ blks us ↔ ∃ (i : Nat) (u : Value), us[i]? = some u ∧ u.ownBlock = some b := by
  rw [List.mem_filterMap]
  constructor
  · rintro ⟨u, hu, hb⟩
    obtain ⟨i, hi⟩ := List.getElem?_of_mem hu
    exact ⟨i, u, hi, hb⟩
  · rintro ⟨i, u, hu, hb⟩
    exact ⟨u, List.mem_of_getElem? hu, hb⟩
theorem NS.lt (h : NS lo w oT eT E k v us xss) : ∀ b ∈ blks (v :: us), lo ≤ b ∧ b < w.heap.size := by
  intro b hb
  obtain ⟨i, u, hu, hbu⟩ := mem_blks.1 hb
  cases i with
  | zero =>
    simp only [List.getElem?_cons_zero, Option.some.injEq] at hu
    subst hu
    exact h.own.lt b hbu
  | succ i =>
    rw [List.getElem?_cons_succ] at hu
    have hi : i < xss.length := by rw [← h.len]; exact (List.getElem?_eq_some_iff.1 hu).1
    exact (h.rows i u _ hu (List.getElem?_eq_getElem hi)).lt b hbu
theorem NS.blocks (h : NS lo w oT eT E k v us xss) (hb : ∀ b ∈ blks (v :: us), w'.heap[b]? = w.heap[b]?) : NS lo w' oT eT E k v us xss :=
  ⟨ownsRow_block h.own fun g hg => hb g (mem_blks.2 ⟨0, v, rfl, hg⟩), h.len,
    fun i u xs hu hx => ownsRow_block (h.rows i u xs hu hx) fun g hg => hb g (mem_blks.2 ⟨i + 1, u, by simpa using hu, hg⟩), h.dis⟩
theorem NS.below (h : NS lo w oT eT E k v us xss) (hb : Below w.heap.size w w') : NS lo w' oT eT E k v us xss := h.blocks fun b hm => hb.block b (h.lt b hm).2
theorem NS.mono (h : NS lo w oT eT E k v us xss) {lo' : Nat} (hl : lo' ≤ lo) : NS lo' w oT eT E k v us xss :=
  ⟨ownsRow_mono h.own hl, h.len, fun i u xs hu hx => ownsRow_mono (h.rows i u xs hu hx) hl, h.dis⟩
theorem NS.start (h : w.ownsRow lo oT 1 v 0 []) : NS lo w oT eT E k v [] ([] : List (List α)) :=
  ⟨h, rfl, fun i u xs hu _ => by simp at hu, by cases hv : v.ownBlock <;> simp [hv]⟩
theorem NS.push (h : NS lo w oT eT E k v us xss) {u : Value} {xs : List α} (hu : w.ownsRow lo eT k u xs.length (xs.flatMap E)) (hn : ∀ b, u.ownBlock = some b → b ∉ blks (v :: us))
    {v' : Value} (hg : w.grownBy w' v.ownBlock) (hr : w'.ownsRow lo oT 1 v' (us ++ [u]).length ((us ++ [u]).flatMap cV)) (hat : ∀ g, v'.ownBlock = some g → v.ownBlock = some g ∨ w.heap.size ≤ g) :
    NS lo w' oT eT E k v' (us ++ [u]) (xss ++ [xs]) := by
  have hdis := h.dis
  have hkeep : ∀ (u' : Value) (n : Nat) (cs : List Value), w.ownsRow lo eT k u' n cs → (∀ b, u'.ownBlock = some b → v.ownBlock ≠ some b) → w'.ownsRow lo eT k u' n cs := fun u' n cs ho hne => by
    refine ho.kept hg ?_
    cases hb : u'.ownBlock with
    | none => exact .inl rfl
    | some b => exact .inr fun e => hne b hb e.symm
  have hv0 : ∀ b, v.ownBlock = some b → b ∉ blks us := fun b hb => by
    rw [blks, List.filterMap_cons, hb] at hdis
    exact (List.nodup_cons.1 hdis).1
  refine ⟨hr, by simp [h.len], fun i u' xs' hi hx => ?_, ?_⟩
  · rcases Nat.lt_or_ge i us.length with hlt | hge
    · rw [List.getElem?_append_left hlt] at hi
      rw [List.getElem?_append_left (by rw [← h.len]; exact hlt)] at hx
      exact hkeep _ _ _ (h.rows i u' xs' hi hx) fun b hb hvb => hv0 b hvb (mem_blks.2 ⟨i, u', hi, hb⟩)
    · have hi2 := (List.getElem?_eq_some_iff.1 hi).1
      simp only [List.length_append, List.length_singleton] at hi2
      obtain rfl : i = us.length := by omega
      have e1 : u = u' := by simpa using hi
      have e2 : xs = xs' := by rw [h.len] at hx; simpa using hx
      subst e1 e2
      exact hkeep _ _ _ hu fun b hb hvb => hn b hb (mem_blks.2 ⟨0, v, rfl, hvb⟩)
  · have hlt := h.lt
    have hus : (blks us).Nodup := by
      cases hv : v.ownBlock with
      | none => simpa [blks, List.filterMap_cons, hv] using hdis
      | some b => rw [blks, List.filterMap_cons, hv] at hdis; exact (List.nodup_cons.1 hdis).2
    have hnu : ∀ b, u.ownBlock = some b → b ∉ blks us := fun b hb hm => hn b hb (by
      obtain ⟨i, u', h1, h2⟩ := mem_blks.1 hm
      exact mem_blks.2 ⟨i + 1, u', by simpa using h1, h2⟩)
    have hall : (blks (us ++ [u])).Nodup := by
      rw [blks, List.filterMap_append]
      cases hub : u.ownBlock with
      | none => simpa [List.filterMap_cons, hub] using hus
      | some b =>
        rw [List.filterMap_cons, hub]
        refine List.nodup_append.2 ⟨hus, by simp, ?_⟩
        intro x hx y hy e
        simp only [List.filterMap_nil, List.mem_cons, List.not_mem_nil, or_false] at hy
        subst hy
        subst e
        exact hnu _ hub hx
    rw [blks, List.filterMap_cons]
    cases hv' : v'.ownBlock with
    | none => exact hall
    | some g =>
      refine List.nodup_cons.2 ⟨fun hm => ?_, hall⟩
      obtain ⟨i, u', hi, hb⟩ := mem_blks.1 hm
      rcases Nat.lt_or_ge i us.length with hl | hge
      · rw [List.getElem?_append_left hl] at hi
        rcases hat g hv' with h1 | h1
        · exact hv0 g h1 (mem_blks.2 ⟨i, u', hi, hb⟩)
        · have := (hlt g (mem_blks.2 ⟨i + 1, u', by simpa using hi, hb⟩)).2
          omega
      · have hi2 := (List.getElem?_eq_some_iff.1 hi).1
        simp only [List.length_append, List.length_singleton] at hi2
        obtain rfl : i = us.length := by omega
        have e1 : u = u' := by simpa using hi
        subst e1
        rcases hat g hv' with h1 | h1
        · exact hn g hb (mem_blks.2 ⟨0, v, rfl, h1⟩)
        · have := (hu.lt g hb).2
          omega
/-- what is read of it: the header of row i, and the row -/
theorem NS.row (h : NS lo w oT eT E k v us xss) (hE : ∀ x, (E x).length = k) {i : Nat} {xs : List α} (hx : xss[i]? = some xs) :
    ∃ g cap A c, v = .slice (some ⟨g, 0, none⟩) xss.length cap ∧ us[i]? = some (.slice A xs.length c) ∧ g < w.heap.size ∧ w.cell? ⟨g, i, none⟩ = some (.slice A xs.length c) ∧ xs.length ≤ c ∧ c ≤ maxLen ∧ SlI lo w.heap.size w E k (.slice A xs.length c) xs := by
  have hi : i < us.length := by rw [h.len]; exact (List.getElem?_eq_some_iff.1 hx).1
  have hu : us[i]? = some us[i] := List.getElem?_eq_getElem hi
  have hr := h.rows i _ xs hu hx
  generalize us[i] = u at hu hr
  have hsl := (Own.of_row (xs := xs) hr rfl rfl).sl hE
  have hsl' := hsl
  obtain ⟨A, c, rfl, hl, hm, -⟩ := hsl'
  have hown := h.own
  have hlt := h.own.lt
  rw [flatCV] at hown
  have hown2 := hown
  obtain ⟨h1, h2⟩ := hown2
  rcases h2 with ⟨rfl, h3⟩ | ⟨g, cap, cur, rfl, r⟩
  · omega
  · refine ⟨g, cap, A, c, by rw [h.len], hu, (hlt g rfl).2, ?_, hl, hm, hsl⟩
    rw [World.ownsRow.cellAt hown i (by omega)]
    exact hu
theorem NS.at (h : NS lo w oT eT E k v us xss) (hE : ∀ x, (E x).length = k) {g n cap : Nat} (hv : v = .slice (some ⟨g, 0, none⟩) n cap) {i : Nat} {xs : List α} (hx : xss[i]? = some xs) :
    ∃ A c, w.cell? ⟨g, i, none⟩ = some (.slice A xs.length c) ∧ xs.length ≤ c ∧ c ≤ 9223372036854775807 ∧ SlI lo w.heap.size w E k (.slice A xs.length c) xs := by
  obtain ⟨g', cap', A, c, hv', -, -, hc, h1, h2, h3⟩ := h.row hE hx
  rw [hv] at hv'
  injection hv' with e1 _ _
  injection e1 with e1
  injection e1 with e1
  subst e1
  exact ⟨A, c, hc, h1, h2, h3⟩
/-- a row that is not empty has a block of its own -/
theorem own_some {W : World} {base k n : Nat} {e : TypeId} {v : Value} {cs : List Value} (h : W.ownsRow base e k v n cs) (hn : n ≠ 0) : ∃ g c, v = .slice (some ⟨g, 0, none⟩) n c ∧ base ≤ g ∧ g < W.heap.size ∧ n ≤ c ∧ c ≤ 9223372036854775807 := by
  have hlt := h.lt
  obtain ⟨h1, h2⟩ := h
  rcases h2 with ⟨rfl, h3⟩ | ⟨g, cap, cur, rfl, h4, h5, h6, h7, r⟩
  · exact absurd h3 hn
  · exact ⟨g, cap, rfl, h4, (hlt g rfl).2, h6, h7⟩
theorem NS.shape (h : NS lo w oT eT E k v us xss) : ∃ A c, v = .slice A xss.length c ∧ xss.length ≤ c ∧ c ≤ maxLen := by
  obtain ⟨h1, h2⟩ := h.own
  rcases h2 with ⟨rfl, h3⟩ | ⟨g, cap, cur, rfl, h4, h5, h6, h7, r⟩
  · exact ⟨none, 0, by rw [← h.len, h3], by rw [← h.len, h3]; exact Nat.le_refl _, by unfold maxLen; omega⟩
  · exact ⟨_, cap, by rw [h.len], by rw [← h.len]; exact h6, h7⟩
end
end Go.Proofs.Ytmlfkledhnlkeaa

/- A region that draws its order: loads come first under a condition S that is asked before its last operations alone (a store to a cell that the region loads). Over any program. -/
namespace Go.Proofs.Ytmlfkledhnlkeaa
set_option linter.unusedVariables false
set_option linter.unusedSimpArgs false
open Go.RowKit

section
variable {P : Program} {ops : Array Oper} {Q : Exit → Act → World → Prop} {md : Region.Mode} {S : World → Prop} {n : Nat}

/-- whatever order is picked; S holds behind each operation below n -/
def wpAnyF (P : Program) (md : Region.Mode) (ops : Array Oper) (Q : Exit → Act → World → Prop) (S : World → Prop) (n : Nat) : Nat → Array Bool → Act → World → Prop
  | 0, listed, a, w => Region.ready md ops listed = [] ∧ Q .normal a w
  | f + 1, listed, a, w => (Region.ready md ops listed = [] → Q .normal a w) ∧
    ∀ i ∈ Region.ready md ops listed, wpOp P ops Q i (fun a' w' => (i < n → S w') ∧ wpAnyF P md ops Q S n f (listed.setIfInBounds i true) a' w') a w
theorem F_any : ∀ (f : Nat) (listed : Array Bool) (a : Act) (w : World), wpAnyF P md ops Q S n f listed a w → wpAny P md ops Q f listed a w
  | 0, _, _, _, h => h
  | f + 1, _, _, _, h => ⟨h.1, fun i hi => wpOp_mono (fun _ _ h' => F_any f _ _ _ h'.2) (h.2 i hi)⟩
theorem F_first {i : Nat} {oi : Oper} {v : Value} (hi : ops[i]? = some oi) (hsel : ∀ (j : Nat) (o : Oper) cs b, ops[j]? = some o → o.op ≠ .select cs b) (hQ : ∀ c a w, Q (.panic c) (a.put oi.dst v) w → Q (.panic c) a w)
    (hs : Region.sinkB md ops n = true) (hc : Region.chainB md ops n = true) (hn : n < ops.size) (hin : i < n) : ∀ (f : Nat) (listed : Array Bool) (a : Act) (w : World), HeadInv md ops n listed →
      (∀ j oj, ops[j]? = some oj → j ≠ i → listed.getD j true = false → (∀ e ∈ oj.after, Region.binds md e = true → e.on ≠ i) → oi.apart ops oj = true) →
      i ∈ Region.ready md ops listed → YieldsIf P ops S oi v a → S w →
      wpAnyF P md ops Q S n f (listed.setIfInBounds i true) (a.put oi.dst v) w → wpAnyF P md ops Q S n (f + 1) listed a w := by
  intro f
  induction f with
  | zero =>
    intro listed a w inv _ hr hy hS H
    have hun := (mem_ready.1 hr).1
    refine ⟨fun h => (by rw [h] at hr; cases hr), fun j hj => ?_⟩
    by_cases hji : j = i
    · subst hji; exact hy.wpOp hi hS ⟨fun _ => hS, H⟩
    · have := ready_mono hj hji
      rw [H.1] at this
      cases this
  | succ f ih =>
    intro listed a w inv hfree hr hy hS H
    have hun := (mem_ready.1 hr).1
    refine ⟨fun h => (by rw [h] at hr; cases hr), fun j hj => ?_⟩
    have hjn : j < n := by
      rcases Nat.lt_or_ge j n with h | h
      · exact h
      · exact absurd hj (tail_waits hs hc hn inv _ i rfl hin hun j h)
    by_cases hji : j = i
    · subst hji; exact hy.wpOp hi hS ⟨fun _ => hS, H⟩
    · have h1 := H.2 j (ready_mono hj hji)
      obtain ⟨hjun, oj, hoj, hall⟩ := mem_ready.1 hj
      have hnot : ∀ e ∈ oj.after, Region.binds md e = true → e.on ≠ i := fun e he hb heq => by
        have h1 := hall e he hb
        rw [heq, getD_both hun] at h1
        cases h1
      have h2 := wpOp_putIf hoj (hfree j oj hoj hji hjun hnot) (fun cs b => hsel i oi cs b hi) (fun cs b => hsel j oj cs b hoj) hQ hy h1
      have hfree' : ∀ k ok, ops[k]? = some ok → k ≠ i → (listed.setIfInBounds j true).getD k true = false → (∀ e ∈ ok.after, Region.binds md e = true → e.on ≠ i) → oi.apart ops ok = true := fun k ok hk hki hun hno => by
        refine hfree k ok hk hki ?_ hno
        by_cases hjk : j = k
        · subst hjk; exact hjun
        · rw [getD_set_ne true hjk] at hun; exact hun
      refine wpOp_mono (fun a' w' h3 => ⟨h3.2.1, ih (listed.setIfInBounds j true) a' w' (inv.set hj hjn) hfree' (ready_mono hr (Ne.symm hji)) h3.1 (h3.2.1 hjn) ?_⟩) h2
      rw [Array.setIfInBounds_comm _ _ hji]
      exact h3.2.2
theorem F_take {i : Nat} {oi : Oper} {v : Value} {f : Nat} {listed : Array Bool} {a : Act} {w : World} (hi : ops[i]? = some oi) (hB : (Region.noSelect ops && Region.sinkB md ops n && Region.chainB md ops n && decide (n < ops.size) && decide (i < n)) = true)
    (hf : Region.free md ops listed i = true) (hr : (Region.ready md ops listed).contains i = true) (hQ : ∀ c a w, Q (.panic c) (a.put oi.dst v) w → Q (.panic c) a w) (inv : HeadInv md ops n listed) (hy : YieldsIf P ops S oi v a) (hS : S w)
    (h : HeadInv md ops n (listed.setIfInBounds i true) → wpAnyF P md ops Q S n f (listed.setIfInBounds i true) (a.put oi.dst v) w) : wpAnyF P md ops Q S n (f + 1) listed a w := by
  simp only [Bool.and_eq_true, decide_eq_true_eq] at hB
  obtain ⟨⟨⟨⟨h1, h2⟩, h3⟩, h4⟩, h5⟩ := hB
  have hr' : i ∈ Region.ready md ops listed := by simpa using hr
  exact F_first hi (Region.noSelect_spec h1) hQ h2 h3 h4 h5 f listed a w inv (Region.free_spec hi hf) hr' hy hS (h (inv.set hr' h5))
/-- the only one that may come up: an operation below n -/
theorem F_one {i : Nat} {oi : Oper} {f : Nat} {listed : Array Bool} {a : Act} {w : World} (hr : Region.ready md ops listed = [i]) (hi : ops[i]? = some oi) (hg : oi.guard = none) (hin : i < n) (inv : HeadInv md ops n listed)
    (h : ∀ K : Act → World → Prop, Shut (∀ a' w', S w' → (S w' → HeadInv md ops n (listed.setIfInBounds i true) → wpAnyF P md ops Q S n f (listed.setIfInBounds i true) a' w') → K a' w') → Oper.wp P oi a w K Q) : wpAnyF P md ops Q S n (f + 1) listed a w := by
  refine ⟨fun h0 => (by rw [hr] at h0; cases h0), fun j hj => ?_⟩
  have hj2 := hj
  rw [hr] at hj2
  obtain rfl : j = i := by simpa using hj2
  have hw : Region.wanted oi (yielded ops a.tmps) = true := by simp [Region.wanted, hg]
  unfold wpOp
  simp only [hi, hw, if_true]
  exact .inl (h _ (fun a' w' hS hF => ⟨fun _ => hS, hF hS (inv.set hj hin)⟩))
/-- the last one -/
theorem F_last {i : Nat} {oi : Oper} {f : Nat} {listed : Array Bool} {a : Act} {w : World} (hr : Region.ready md ops listed = [i]) (hi : ops[i]? = some oi) (hg : oi.guard = none) (hin : n ≤ i) (he : Region.ready md ops (listed.setIfInBounds i true) = [])
    (h : ∀ K : Act → World → Prop, (∀ a' w', Q .normal a' w' → K a' w') → Oper.wp P oi a w K Q) : wpAnyF P md ops Q S n (f + 1) listed a w := by
  refine ⟨fun h0 => (by rw [hr] at h0; cases h0), fun j hj => ?_⟩
  rw [hr] at hj
  obtain rfl : j = i := by simpa using hj
  have hw : Region.wanted oi (yielded ops a.tmps) = true := by simp [Region.wanted, hg]
  unfold wpOp
  simp only [hi, hw, if_true]
  refine .inl (h _ (fun a' w' hq => ⟨fun h => absurd h (by omega), ?_⟩))
  cases f with
  | zero => exact ⟨he, hq⟩
  | succ f => exact ⟨fun _ => hq, by rw [he]; simp⟩
/-- two that may come up -/
theorem F_two {i j : Nat} {oi oj : Oper} {f : Nat} {listed : Array Bool} {a : Act} {w : World} (hr : Region.ready md ops listed = [i, j]) (hi : ops[i]? = some oi) (hj : ops[j]? = some oj) (hgi : oi.guard = none) (hgj : oj.guard = none) (hin : i < n ∧ j < n) (inv : HeadInv md ops n listed)
    (h1 : ∀ K : Act → World → Prop, Shut (∀ a' w', S w' → (S w' → HeadInv md ops n (listed.setIfInBounds i true) → wpAnyF P md ops Q S n f (listed.setIfInBounds i true) a' w') → K a' w') → Oper.wp P oi a w K Q)
    (h2 : ∀ K : Act → World → Prop, Shut (∀ a' w', S w' → (S w' → HeadInv md ops n (listed.setIfInBounds j true) → wpAnyF P md ops Q S n f (listed.setIfInBounds j true) a' w') → K a' w') → Oper.wp P oj a w K Q) : wpAnyF P md ops Q S n (f + 1) listed a w := by
  refine ⟨fun h0 => (by rw [hr] at h0; cases h0), fun k hk => ?_⟩
  have hk2 := hk
  rw [hr] at hk2
  simp only [List.mem_cons, List.not_mem_nil, or_false] at hk2
  rcases hk2 with rfl | rfl
  · have hw : Region.wanted oi (yielded ops a.tmps) = true := by simp [Region.wanted, hgi]
    unfold wpOp
    simp only [hi, hw, if_true]
    exact .inl (h1 _ (fun a' w' hS hF => ⟨fun _ => hS, hF hS (inv.set hk hin.1)⟩))
  · have hw : Region.wanted oj (yielded ops a.tmps) = true := by simp [Region.wanted, hgj]
    unfold wpOp
    simp only [hj, hw, if_true]
    exact .inl (h2 _ (fun a' w' hS hF => ⟨fun _ => hS, hF hS (inv.set hk hin.2)⟩))
/-- one of the chain at the end, not the last -/
theorem F_tail {i : Nat} {oi : Oper} {f : Nat} {listed : Array Bool} {a : Act} {w : World} (hr : Region.ready md ops listed = [i]) (hi : ops[i]? = some oi) (hg : oi.guard = none) (hin : n ≤ i)
    (h : ∀ K : Act → World → Prop, Shut (∀ a' w', wpAnyF P md ops Q S n f (listed.setIfInBounds i true) a' w' → K a' w') → Oper.wp P oi a w K Q) : wpAnyF P md ops Q S n (f + 1) listed a w := by
  refine ⟨fun h0 => (by rw [hr] at h0; cases h0), fun j hj => ?_⟩
  rw [hr] at hj
  obtain rfl : j = i := by simpa using hj
  have hw : Region.wanted oi (yielded ops a.tmps) = true := by simp [Region.wanted, hg]
  unfold wpOp
  simp only [hi, hw, if_true]
  exact .inl (h _ (fun a' w' hF => ⟨fun hlt => absurd hlt (by omega), hF⟩))
theorem F_start {id : Nat} {a : Act} {w : World} (n : Nat) (S : World → Prop) (hm : P.follows .mixedOrders = true) (hS : S w.drew)
    (h : S w.drew → HeadInv .any ops n (Array.replicate ops.size false) → wpAnyF P .any ops Q S n ops.size (Array.replicate ops.size false) a w.drew) : (Code.region id ops true).wp P Q a w :=
  wp_region_any hm (F_any _ _ _ _ (h hS ⟨by simp, fun j oj _ hl => (by rw [getD_replicate_false] at hl; cases hl), fun t _ ht => getD_in (by simpa using ht) (getD_replicate_false _ _)⟩))

/-- append(s, x): as an operation by itself; the one element lies in block H -/
theorem op_append1 {w : World} {α : Type} (E : α → List Value) {o : Oper} {a : Act} {K : Act → World → Prop} {t e : TypeId} {z : Value} {k bytes : Nat} (el : ElemOk P t e z k bytes) (hgd : o.guard = none) (s y : Operand)
    (ho : o.op = .call { callee := .builtin .append, args := #[s, y], argTypes := #[t, t] })
    (base : Nat) (v : Value) (xs : List α) (x : α) (c H : Nat) (hs : a.eval s = v) (hown : w.ownsRow base e k v xs.length (xs.flatMap E)) (hy : a.eval y = .slice (some ⟨H, 0, none⟩) 1 c)
    (hH : w.heap[H]? = some (.cells (E x).toArray e (0, 0))) (hE : (E x).length = k) (h1 : ∀ u ∈ E x, u.oneCell' = true) (hbytes : (xs.length + 1) * bytes ≤ 140737488355328) (hb0 : 0 < bytes) (hbase : base ≤ w.heap.size)
    (h : ∀ g cap w', w'.ownsRow base e k (.slice (some ⟨g, 0, none⟩) (xs.length + 1) cap) (xs ++ [x]).length ((xs ++ [x]).flatMap E) → w.grownBy w' v.ownBlock → (v.ownBlock = some g ∨ w.heap.size ≤ g) → g < w'.heap.size →
      K (a.put o.dst (.slice (some ⟨g, 0, none⟩) (xs.length + 1) cap)) w') : Oper.wp P o a w K Q := by
  have h2 := step_append1 (ops := #[]) (EE := True) (Q := Q) (K := K) E el hgd s y ho base v xs x c H hs hown hy hH hE h1 hbytes hb0 hbase h
  have hw : Region.wanted o (yielded #[] a.tmps) = true := by simp [Region.wanted, hgd]
  rwa [if_pos hw] at h2
/-- the same at the head of a list of operations -/
theorem wpList_append2 {w : World} {α : Type} (E : α → List Value) {rest : List Oper} {o : Oper} {a : Act} {t e : TypeId} {z : Value} {k bytes : Nat} (el : ElemOk P t e z k bytes) (hgd : o.guard = none) (s y : Operand)
    (ho : o.op = .call { callee := .builtin .append, args := #[s, y], argTypes := #[t, t] })
    (base : Nat) (v : Value) (xs : List α) (x : α) (c H : Nat) (hs : a.eval s = v) (hown : w.ownsRow base e k v xs.length (xs.flatMap E)) (hy : a.eval y = .slice (some ⟨H, 0, none⟩) 1 c)
    (hH : w.heap[H]? = some (.cells (E x).toArray e (0, 0))) (hE : (E x).length = k) (h1 : ∀ u ∈ E x, u.oneCell' = true) (hbytes : (xs.length + 1) * bytes ≤ 140737488355328) (hb0 : 0 < bytes) (hbase : base ≤ w.heap.size)
    (h : ∀ g cap w', w'.ownsRow base e k (.slice (some ⟨g, 0, none⟩) (xs.length + 1) cap) (xs ++ [x]).length ((xs ++ [x]).flatMap E) → w.grownBy w' v.ownBlock → (v.ownBlock = some g ∨ w.heap.size ≤ g) → g < w'.heap.size →
      wpList P ops Q rest (a.put o.dst (.slice (some ⟨g, 0, none⟩) (xs.length + 1) cap)) w') : wpList P ops Q (o :: rest) a w :=
  wpList_plain hgd fun _ hK => op_append1 E el hgd s y ho base v xs x c H hs hown hy hH hE h1 hbytes hb0 hbase fun g cap w' h2 h3 h4 h5 => hK _ _ (h g cap w' h2 h3 h4 h5)
end
end Go.Proofs.Ytmlfkledhnlkeaa

/- append of a whole list to a row of the call's own, from whatever slice reads as the list. Over any program. -/
namespace Go.Proofs.Ytmlfkledhnlkeaa
set_option linter.unusedVariables false
set_option linter.unusedSimpArgs false
open Go.ChangeShapes Go.WideShapes Go.ChangeAt Go.RowKit
section
variable {P : Program} {w : World}
theorem run_append_nil0 (base : Nat) (t ty e : TypeId) (i : TypeInfo) (size : Nat) (ht : P.underlying t = some (.slice e)) (hi : P.info? e = some i) (v : Value) (n : Nat) (xs : List Value) (hown : w.ownsRow base e size v n xs) (c : Nat) :
    (Builtin.append_ #[t, t] ty #[v, .slice none 0 c]).run P w = .ok v w := by
  obtain ⟨_, h2⟩ := hown
  rcases h2 with ⟨rfl, _⟩ | ⟨g, cap, cur, rfl, _, _, hnc, _⟩
  · simp [Builtin.append_, run_underlying ht, sizeOf, typeInfo, hi, Builtin.lenOf, Builtin.firstCells]
  · simp [Builtin.append_, run_underlying ht, sizeOf, typeInfo, hi, Builtin.lenOf, Builtin.firstCells, hnc, storeCells]
theorem flat_one {α : Type} {E : α → List Value} {xs : List α} (h1 : ∀ x, ∀ u ∈ E x, u.oneCell' = true) : ∀ u ∈ xs.flatMap E, u.oneCell' = true := fun u hu => by
  obtain ⟨x, _, hx⟩ := List.mem_flatMap.1 hu
  exact h1 x u hx
theorem flat_lenE {α : Type} {E : α → List Value} {k : Nat} (hE : ∀ x, (E x).length = k) : ∀ xs : List α, (xs.flatMap E).length = xs.length * k
  | [] => by simp
  | x :: xs => by rw [List.flatMap_cons, List.length_append, hE, flat_lenE hE xs, List.length_cons, Nat.succ_mul, Nat.add_comm]
/-- all cells of a list lie one behind the other -/
theorem flat_cells {α : Type} {E : α → List Value} {k : Nat} (hE : ∀ x, (E x).length = k) (hk : 0 < k) {b o : Nat} {ys : List α} (h : ∀ i x, ys[i]? = some x → ∀ j u, (E x)[j]? = some u → w.cell? ⟨b, o + i * k + j, none⟩ = some u) :
    ∀ j u, (ys.flatMap E)[j]? = some u → w.cell? ((⟨b, o, none⟩ : Addr).add j) = some u := by
  intro j u hu
  have hl := (List.getElem?_eq_some_iff.1 hu).1
  rw [flat_lenE hE] at hl
  have hi : j / k < ys.length := Nat.div_lt_of_lt_mul (by rw [Nat.mul_comm]; exact hl)
  have hx : ys[j / k]? = some ys[j / k] := List.getElem?_eq_getElem hi
  have hj : j % k < (E ys[j / k]).length := by rw [hE]; exact Nat.mod_lt _ hk
  have hf := flat_at hE hx (j % k) _ (List.getElem?_eq_getElem hj)
  have hjj : j / k * k + j % k = j := by rw [Nat.mul_comm]; exact Nat.div_add_mod j k
  rw [hjj, hu] at hf
  injection hf with hf
  have hc := h _ _ hx (j % k) _ (List.getElem?_eq_getElem hj)
  have hadd : (⟨b, o, none⟩ : Addr).add j = ⟨b, o + j, none⟩ := by unfold Addr.add; split <;> simp_all
  rw [hadd, hf, ← hc]
  congr 2
  omega
theorem run_appendL {α : Type} (E : α → List Value) {t e : TypeId} {z : Value} {k bytes : Nat} (el : ElemOk P t e z k bytes) (hE : ∀ x, (E x).length = k) (h1 : ∀ x, ∀ u ∈ E x, u.oneCell' = true)
    (base : Nat) (v : Value) (xs ys : List α) (hown : w.ownsRow base e k v xs.length (xs.flatMap E)) (lo hi : Nat) (y : Value) (hy : SlI lo hi w E k y ys) (hbytes : (xs.length + ys.length) * bytes ≤ 140737488355328) (hb0 : 0 < bytes) (hbase : base ≤ w.heap.size) (ty : TypeId) :
    ∃ v' w', (Builtin.append_ #[t, t] ty #[v, y]).run P w = .ok v' w' ∧ w'.ownsRow base e k v' (xs ++ ys).length ((xs ++ ys).flatMap E) ∧ w.grownBy w' v.ownBlock ∧ (v'.ownBlock = v.ownBlock ∨ v'.ownBlock = some w.heap.size) := by
  obtain ⟨i, hi, hz0, hz1, hz2⟩ := info_parts el.info
  have hlen : xs.length + ys.length ≤ 140737488355328 := Nat.le_trans (Nat.le_mul_of_pos_right _ hb0) hbytes
  obtain ⟨A, c, rfl, _, _, hx⟩ := hy
  have key : ∀ a : Addr, A = some a → (∀ j u, (ys.flatMap E)[j]? = some u → w.cell? (a.add j) = some u) → ∃ v' w', (Builtin.append_ #[t, t] ty #[v, .slice A ys.length c]).run P w = .ok v' w' ∧ w'.ownsRow base e k v' (xs ++ ys).length ((xs ++ ys).flatMap E) ∧ w.grownBy w' v.ownBlock ∧ (v'.ownBlock = v.ownBlock ∨ v'.ownBlock = some w.heap.size) := by
    intro a ha hc
    subst ha
    obtain ⟨v', w', hr, h2, h3, _, h5⟩ := run_append_own_at (P := P) w base t ty e i z k bytes el.und hi hz0 hz1 hz2 el.zc el.pos v xs.length (xs.flatMap E) hown a ys.length c (ys.flatMap E) (flat_lenE hE ys) hc (flat_one h1) (by unfold maxLen; omega) hbytes hbase
    exact ⟨v', w', hr, by rw [List.flatMap_append, List.length_append]; exact h2, h3, h5⟩
  cases ys with
  | nil =>
    cases A with
    | none => exact ⟨v, w, run_append_nil0 base t ty e i k el.und hi v _ _ hown c, by simpa using hown, World.grownBy.refl w _, .inl rfl⟩
    | some a => exact key a rfl (fun j u hu => by simp at hu)
  | cons x ys =>
    obtain ⟨b, o, hA, -, -, -⟩ := hx 0 x rfl
    refine key ⟨b, o, none⟩ hA (flat_cells hE el.pos fun i x hi j u hu => ?_)
    obtain ⟨b', o', hA', -, -, hc⟩ := hx i x hi
    rw [hA] at hA'
    injection hA' with hA'
    injection hA' with e1 e2
    subst e1 e2
    exact hc j u hu
theorem wpList_appendL {α : Type} (E : α → List Value) {ops : Array Oper} {rest : List Oper} {o : Oper} {a : Act} {Q : Exit → Act → World → Prop} {t e : TypeId} {z : Value} {k bytes : Nat} (el : ElemOk P t e z k bytes) (hE : ∀ x, (E x).length = k) (h1 : ∀ x, ∀ u ∈ E x, u.oneCell' = true)
    (hgd : o.guard = none) (s y : Operand) (ho : o.op = .call { callee := .builtin .append, args := #[s, y], argTypes := #[t, t] })
    (base : Nat) (v : Value) (xs ys : List α) (hs : a.eval s = v) (hown : w.ownsRow base e k v xs.length (xs.flatMap E)) (lo hi : Nat) (yv : Value) (hyv : a.eval y = yv) (hy : SlI lo hi w E k yv ys) (hbytes : (xs.length + ys.length) * bytes ≤ 140737488355328) (hb0 : 0 < bytes) (hbase : base ≤ w.heap.size)
    (h : ∀ v' w', w'.ownsRow base e k v' (xs ++ ys).length ((xs ++ ys).flatMap E) → w.grownBy w' v.ownBlock → (v'.ownBlock = v.ownBlock ∨ v'.ownBlock = some w.heap.size) → wpList P ops Q rest (a.put o.dst v') w') : wpList P ops Q (o :: rest) a w := by
  refine wpList_plain hgd fun K hK => ?_
  obtain ⟨v', w', hr, h2, h3, h5⟩ := run_appendL E el hE h1 base v xs ys hown lo hi yv hy hbytes hb0 hbase o.type
  unfold Oper.wp execOp
  simp only [ho, resolve, invoke, builtin, Sem.run_bind, Sem.run_pure, Result.andThen_ok, List.map_toArray, List.map_cons, List.map_nil, hs, hyv, hr]
  exact hK _ _ (h v' w' h2 h3 h5)
end
end Go.Proofs.Ytmlfkledhnlkeaa

/- Plain: numbers in ascending order, each once. -/
namespace Go.Proofs.Ytmlfkledhnlkeaa
set_option linter.unusedVariables false
set_option linter.unusedSimpArgs false
open Go.Lib
def ascL (xs : List Int) : List Int := Lib.compact (xs.mergeSort fun x y => decide (x ≤ y))
theorem get_bang {zs : List Int} {j : Nat} (h : j < zs.length) : zs.toArray[j]! = zs[j] := by
  rw [getElem!_pos _ j (by simpa using h)]; simp
theorem asc_aux {zs : List Int} (hs : zs.Pairwise (· ≤ ·)) : ∀ m, m ≤ zs.length → (compactUpTo zs.toArray m).Pairwise (· < ·) ∧ ∀ x, x ∈ compactUpTo zs.toArray m ↔ ∃ j, ∃ h : j < zs.length, j < m ∧ zs[j] = x := by
  intro m
  induction m with
  | zero => intro _; simp [compactUpTo]
  | succ m ih =>
    intro hm
    obtain ⟨ih1, ih2⟩ := ih (by omega)
    have hml : m < zs.length := by omega
    rw [compactUpTo_succ]
    have hbd : ∀ x ∈ compactUpTo zs.toArray m, x ≤ zs[m] ∧ (0 < m → x ≤ zs[m - 1]) := fun x hx => by
      obtain ⟨j, hj, hjm, rfl⟩ := (ih2 x).1 hx
      refine ⟨List.pairwise_iff_getElem.1 hs j m hj hml hjm, fun h0 => ?_⟩
      rcases Nat.lt_or_ge j (m - 1) with h | h
      · exact List.pairwise_iff_getElem.1 hs j (m - 1) hj (by omega) h
      · have : j = m - 1 := by omega
        subst this
        exact Int.le_refl _
    by_cases hk : keeps zs.toArray m = true
    · rw [if_pos hk, get_bang hml]
      refine ⟨List.pairwise_append.2 ⟨ih1, by simp, fun x hx y hy => ?_⟩, fun x => ?_⟩
      · rw [List.mem_singleton] at hy
        subst hy
        rcases Nat.eq_zero_or_pos m with h0 | h0
        · subst h0
          simp [compactUpTo] at hx
        · have h1 := (hbd x hx).2 h0
          have h2 : zs[m - 1] ≤ zs[m] := List.pairwise_iff_getElem.1 hs (m - 1) m (by omega) hml (by omega)
          have h3 : zs[m] ≠ zs[m - 1] := by
            simp only [keeps, decide_eq_true_eq] at hk
            rcases hk with h | h
            · omega
            · rwa [get_bang hml, get_bang (show m - 1 < zs.length by omega)] at h
          have h4 : zs[m - 1] ≠ zs[m] := fun e => h3 e.symm
          omega
      · rw [List.mem_append, List.mem_singleton, ih2]
        constructor
        · rintro (⟨j, hj, hjm, rfl⟩ | rfl)
          · exact ⟨j, hj, by omega, rfl⟩
          · exact ⟨m, hml, by omega, rfl⟩
        · rintro ⟨j, hj, hjm, rfl⟩
          rcases Nat.lt_or_ge j m with h | h
          · exact .inl ⟨j, hj, h, rfl⟩
          · obtain rfl : j = m := by omega
            exact .inr rfl
    · rw [if_neg hk, List.append_nil]
      refine ⟨ih1, fun x => ?_⟩
      rw [ih2]
      have h0 : 0 < m ∧ zs[m] = zs[m - 1] := by
        simp only [keeps, decide_eq_true_eq, not_or] at hk
        refine ⟨by omega, ?_⟩
        have := hk.2
        rw [get_bang hml, get_bang (show m - 1 < zs.length by omega)] at this
        exact Classical.not_not.1 this
      constructor
      · rintro ⟨j, hj, hjm, rfl⟩
        exact ⟨j, hj, by omega, rfl⟩
      · rintro ⟨j, hj, hjm, rfl⟩
        rcases Nat.lt_or_ge j m with h | h
        · exact ⟨j, hj, h, rfl⟩
        · obtain rfl : j = m := by omega
          exact ⟨j - 1, by omega, by omega, h0.2.symm⟩
theorem ascL_spec (xs : List Int) : (ascL xs).Pairwise (· < ·) ∧ ∀ x, x ∈ ascL xs ↔ x ∈ xs := by
  have hs : (xs.mergeSort fun x y => decide (x ≤ y)).Pairwise (· ≤ ·) := by
    have h := List.pairwise_mergeSort (le := fun x y : Int => decide (x ≤ y)) (fun a b c h1 h2 => by simp only [decide_eq_true_eq] at *; omega) (fun a b => by simp only [Bool.or_eq_true, decide_eq_true_eq]; omega) xs
    exact h.imp (fun h => by simpa using h)
  obtain ⟨h1, h2⟩ := asc_aux hs _ (Nat.le_refl _)
  refine ⟨h1, fun x => ?_⟩
  have h3 := h2 x
  unfold ascL compact
  rw [h3, ← List.mem_mergeSort (le := fun x y : Int => decide (x ≤ y)), List.mem_iff_getElem]
  constructor
  · rintro ⟨j, hj, _, e⟩; exact ⟨j, hj, e⟩
  · rintro ⟨j, hj, e⟩; exact ⟨j, hj, hj, e⟩
theorem asc_uniq : ∀ {l r : List Int}, l.Pairwise (· < ·) → r.Pairwise (· < ·) → (∀ x, x ∈ l ↔ x ∈ r) → l = r
  | [], [], _, _, _ => rfl
  | [], y :: r, _, _, h => absurd ((h y).2 (by simp)) (by simp)
  | x :: l, [], _, _, h => absurd ((h x).1 (by simp)) (by simp)
  | x :: l, y :: r, h1, h2, h => by
    obtain ⟨a1, a2⟩ := List.pairwise_cons.1 h1
    obtain ⟨b1, b2⟩ := List.pairwise_cons.1 h2
    have hxy : x = y := by
      have e1 := (h x).1 (by simp)
      have e2 := (h y).2 (by simp)
      rcases List.mem_cons.1 e1 with e1 | e1
      · exact e1
      · rcases List.mem_cons.1 e2 with e2 | e2
        · exact e2.symm
        · have := b1 x e1
          have := a1 y e2
          omega
    subst hxy
    rw [asc_uniq a2 b2 fun z => ?_]
    have hz := h z
    simp only [List.mem_cons] at hz
    constructor
    · intro hm
      rcases hz.1 (.inr hm) with e | e
      · have := a1 z hm; omega
      · exact e
    · intro hm
      rcases hz.2 (.inr hm) with e | e
      · have := b1 z hm; omega
      · exact e
/-- the members of a set, as numbers -/
def memI (n m : Nat) : List Int := (mem n m).map fun (t : Nat) => (t : Int)
theorem memI_asc (n m : Nat) : (memI n m).Pairwise (· < ·) := by
  unfold memI mem
  rw [List.pairwise_map]
  refine (List.Pairwise.filter _ (List.pairwise_lt_range)).imp fun h => by omega
theorem mem_memI {n m : Nat} {x : Int} : x ∈ memI n m ↔ ∃ t : Nat, x = (t : Int) ∧ t < n ∧ m.testBit t = true := by
  unfold memI
  rw [List.mem_map]
  constructor
  · rintro ⟨t, ht, rfl⟩; exact ⟨t, rfl, mem_mem.1 ht⟩
  · rintro ⟨t, rfl, h⟩; exact ⟨t, mem_mem.2 h, rfl⟩
end Go.Proofs.Ytmlfkledhnlkeaa

/- A row of one's own, cut short: what 's[:m]' leaves is a row of one's own. -/
namespace Go.Proofs.Ytmlfkledhnlkeaa
set_option linter.unusedVariables false
set_option linter.unusedSimpArgs false
open Go.ChangeShapes Go.WideShapes Go.ChangeAt Go.RowKit

theorem ownsRow_take {W : World} {base k n m g cap : Nat} {e : TypeId} {cs : List Value} (h : W.ownsRow base e k (.slice (some ⟨g, 0, none⟩) n cap) n cs) (hm : m ≤ n) : W.ownsRow base e k (.slice (some ⟨g, 0, none⟩) m cap) m (cs.take (m * k)) := by
  obtain ⟨hl, hs⟩ := h
  have hmk : m * k ≤ n * k := Nat.mul_le_mul_right k hm
  refine ⟨by rw [List.length_take, hl]; omega, ?_⟩
  rcases hs with ⟨h1, _⟩ | ⟨g', cap', cur, hv, hg, hh, hnc, hcm, hsz, htk⟩
  · cases h1
  · simp only [Value.slice.injEq, Option.some.injEq, Addr.mk.injEq, and_true, true_and] at hv
    obtain ⟨rfl, rfl⟩ := hv
    refine .inr ⟨g, cap, cur, rfl, hg, hh, by omega, hcm, hsz, ?_⟩
    rw [← htk, List.take_take]
    congr 1
    omega
end Go.Proofs.Ytmlfkledhnlkeaa

/- The program's copyInts and ascending: a copy of numbers; the same in ascending order, each once. -/
namespace Go.Proofs.Ytmlfkledhnlkeaa
set_option linter.unusedVariables false
set_option linter.unusedSimpArgs false
open Go.ChangeShapes Go.WideShapes Go.ChangeAt Go.RowKit Go.Sort
attribute [local go_sem] ext_cell ext_frozen ext_lt ext_lt1 ext_lt2 ext_lt3 ltn2 ltn3 ltn13 lts1 lts2 lts3

theorem flatI_map (xs : List Int) : xs.flatMap cI = xs.map (Value.int .i64) := by
  induction xs with
  | nil => rfl
  | cons x xs ih => rw [List.flatMap_cons, List.map_cons, ih]; rfl
theorem only_ahead (lo hi : Nat) (w : World) (n : Nat) : Only lo hi w (Sort.ahead w n) := ⟨rfl, rfl, rfl, Nat.le_refl _, fun _ _ _ => rfl⟩
theorem only_grow (lo hi : Nat) (w : World) (os : Array Obj) : Only lo hi w (grow w os) := ⟨rfl, rfl, rfl, by simp [grow], fun n hn _ => by simp [grow, Array.getElem?_append, hn]⟩
theorem only_put {α : Type} [Inhabited α] (enc : α → Value) (w : World) (g off : Nat) (d : Array α) : Only g (g + 1) w (putRow enc w g off d) :=
  ⟨rfl, rfl, rfl, by simp [putRow, mapBlock], fun n hn ho => by simp only [putRow, mapBlock, Array.getElem?_modify]; rw [if_neg (by omega)]⟩
theorem row_put {w : World} {base g n cap : Nat} {e : TypeId} {cs : List Value} (h : w.ownsRow base e 1 (.slice (some ⟨g, 0, none⟩) n cap) n cs) {ds : List Int} (hd : ds.length = n) :
    (putRow (Value.int .i64) w g 0 ds.toArray).ownsRow base e 1 (.slice (some ⟨g, 0, none⟩) n cap) n (ds.flatMap cI) := by
  obtain ⟨hl, hs⟩ := h
  rw [flatI_map]
  refine ⟨by simp [hd], ?_⟩
  rcases hs with ⟨h1, _⟩ | ⟨g', cap', cur, hv, hg, hh, hnc, hcm, hsz, htk⟩
  · cases h1
  · simp only [Value.slice.injEq, Option.some.injEq, Addr.mk.injEq, and_true, true_and] at hv
    obtain ⟨rfl, rfl⟩ := hv
    refine .inr ⟨g, cap, putCells (Value.int .i64) 0 ds.toArray cur, rfl, hg, ?_, hnc, hcm, by simp [putCells, hsz], ?_⟩
    · simp [putRow, mapBlock, Array.getElem?_modify, hh, onCells]
    · apply List.ext_getElem?
      intro k
      rw [List.getElem?_take]
      by_cases hk : k < n * 1
      · rw [if_pos hk]
        have hk1 : k < n := by omega
        have hkc : k < cur.size := by omega
        have hkd : k < ds.length := by omega
        simp [putCells, hkc, hkd, getElem!_pos]
      · rw [if_neg hk, List.getElem?_eq_none (by simp; omega)]
theorem holds_own {w : World} {base g n cap : Nat} {e : TypeId} {zs : List Int} (h : w.ownsRow base e 1 (.slice (some ⟨g, 0, none⟩) n cap) n (zs.flatMap cI)) (hz : zs.length = n) : Holds (Value.int .i64) w g 0 zs.toArray := by
  intro j hj
  have hj' : j < zs.length := by simpa using hj
  refine ⟨?_, by rw [Nat.zero_add]; exact World.ownsRow.frozenAt h j⟩
  rw [Nat.zero_add, World.ownsRow.cellAt h j (by omega), flatI_map, List.getElem?_map, List.getElem?_eq_getElem hj', get_bang hj']
  rfl

set_option maxHeartbeats 1000000 in
theorem copyInts_any (v : Value) (xs : List Int) (w : World) (hv : SlE w cI 1 v xs) (hn : xs.length ≤ 1000000) :
    Calls Try.prog 122 #[v] w fun e w' => ∃ v', e = .returned v' ∧ Own w.heap.size w'.heap.size w' 3 cI 1 v' xs ∧ Below w.heap.size w w' := by
  have hv0 := hv
  obtain ⟨A, c, rfl, hl, hm, -⟩ := SlE.form hv
  have hba : Below w.heap.size w (w.alloc (.cells #[] 3)) := (Below.refl _ _).alloc (Nat.le_refl _) _
  have hv1 := SlE.keep hv0 hba
  have hrow := World.ownsRow_lit (base := w.heap.size) (e := 3) (size := 1) w #[] 0 (Nat.le_refl _) (by decide) rfl
  have HV := Lib.hid hv1
  have HR := Lib.hid hrow
  clear hv hv0 hv1 hrow
  go_enter Try.func122, Try.ntmps122
  go_wp2_with (at_builtin; (refine wpList_appendL cI elInt cI_len cI_one rfl _ _ rfl w.heap.size _ [] xs (by rfl) HR.out 0 _ _ (by rfl) HV.out (by simp; omega) (by omega) (by simp) ?_); intro v' w4 hrow' hgr4 hat4)
  have hown := Own.of_row (xs := xs) hrow' rfl rfl
  have hgr := hgr4
  have hbel := (hba.trans (own_below HR.out (by simp) hgr4))
  obtain ⟨A2, n2, c2, rfl⟩ := hown.shape
  have HO := Lib.hid hown
  clear hown hgr hgr4 hrow' hat4
  go_wp2_with fail
  go_ret
  exact ⟨_, rfl, HO.out, hbel⟩

set_option maxHeartbeats 2000000 in
theorem ascending_any (v : Value) (xs : List Int) (w : World) (hv : SlE w cI 1 v xs) (hn : xs.length ≤ 1000000) :
    Calls Try.prog 147 #[v] w fun e w' => ∃ v', e = .returned v' ∧ Own w.heap.size w'.heap.size w' 3 cI 1 v' (ascL xs) ∧ Below w.heap.size w w' := by
  have hc := copyInts_any v xs w hv hn
  have HC := Lib.hid hc
  clear hc hv
  obtain ⟨R, hR⟩ : ∃ R, R = ascL xs := ⟨_, rfl⟩
  rw [← hR]
  have HR := Lib.hid hR
  clear hR
  go_enter Try.func147, Try.ntmps147
  go_wp2_with fail
  refine HC.out.mono ?_
  rintro e w1 ⟨v1, rfl, ho1, hb1⟩
  cases xs with
  | nil =>
    have hr0 : R = [] := by rw [HR.out]; simp [ascL, Lib.compact, Lib.compactUpTo]
    subst hr0
    obtain ⟨A1, c1, rfl, -, -, -⟩ := ho1.form cI_len
    have HO := Lib.hid ho1
    clear ho1
    simp only [List.length_nil] at HO ⊢
    go_wp2_with fail
    refine (Try.slices_Sort_int_none A1 c1 _).mono ?_
    rintro e w2 ⟨rfl, rfl⟩
    go_wp2_with fail
    refine (Try.slices_Compact_int_empty A1 c1 _).mono ?_
    rintro e w3 ⟨rfl, rfl⟩
    go_wp2_with fail
    go_ret
    exact ⟨_, rfl, HO.out, hb1⟩
  | cons x xs =>
    obtain ⟨zs, hzs⟩ : ∃ zs, zs = x :: xs := ⟨_, rfl⟩
    have hz0 : zs.length ≠ 0 := by rw [hzs]; simp
    rw [← hzs] at HR ho1 hn
    clear hzs HC
    have hr1 := ho1.1
    obtain ⟨g, c, rfl, hg, hgw, hcl, hcm⟩ := own_some hr1 hz0
    have hms : (zs.mergeSort fun x y => decide (x ≤ y)).length = zs.length := List.length_mergeSort _
    obtain ⟨ys, hys⟩ : ∃ ys, ys = zs.mergeSort fun x y => decide (x ≤ y) := ⟨_, rfl⟩
    rw [← hys] at hms
    have hsort := Try.slices_Sort_int g 0 c zs w1 (holds_own hr1 rfl) hgw (by omega)
    rw [← hys] at hsort
    have HS := Lib.hid hsort
    have HR1 := Lib.hid hr1
    have HRY := Lib.hid (show R = Lib.compact ys by rw [HR.out, ascL, hys])
    clear hsort hr1 hys ho1 HR
    go_wp2_with fail
    refine HS.out.mono ?_
    rintro e w2 ⟨rfl, n, os, rfl⟩
    have hon := ((only_ahead g (g + 1) w1 n).trans (only_put (Value.int .i64) _ g 0 ys.toArray)).trans (only_grow g (g + 1) _ os)
    have hr2 : (grow (putRow (Value.int .i64) (Sort.ahead w1 n) g 0 ys.toArray) os).ownsRow w.heap.size 3 1 (.slice (some ⟨g, 0, none⟩) zs.length c) zs.length (ys.flatMap cI) := by
      have h := row_put (w := Sort.ahead w1 n) (ds := ys) (cs := zs.flatMap cI) (by exact HR1.out) hms
      exact ownsRow_block h fun b hb => by
        have hlt := (h.lt b hb).2
        exact (only_grow 0 0 (putRow (Value.int .i64) (Sort.ahead w1 n) g 0 ys.toArray) os).block b hlt (.inr (Nat.zero_le _))
    have HON := Lib.hid hon
    have HR2 := Lib.hid hr2
    generalize grow (putRow (Value.int .i64) (Sort.ahead w1 n) g 0 ys.toArray) os = w2 at *
    clear hon hr2 HS HR1
    have hcomp := Try.slices_Compact_int g 0 c ys w2 (holds_own HR2.out hms) (by omega) (by omega)
    rw [hms] at hcomp
    have HCO := Lib.hid hcomp
    clear hcomp
    go_wp2_with fail
    refine HCO.out.mono ?_
    rintro e w3 ⟨rfl, q, rfl⟩
    have hcl2 := Lib.compact_length_le ys
    have hr3 : (putRow (Value.int .i64) (Sort.ahead w2 q) g 0 (Lib.compact ys ++ List.replicate (zs.length - (Lib.compact ys).length) 0).toArray).ownsRow w.heap.size 3 1 (.slice (some ⟨g, 0, none⟩) zs.length c) zs.length ((Lib.compact ys ++ List.replicate (zs.length - (Lib.compact ys).length) 0).flatMap cI) :=
      row_put (w := Sort.ahead w2 q) (cs := ys.flatMap cI) (by exact HR2.out) (by rw [List.length_append, List.length_replicate]; omega)
    have hr4 := ownsRow_take hr3 (show (Lib.compact ys).length ≤ zs.length by omega)
    have htk : ((Lib.compact ys ++ List.replicate (zs.length - (Lib.compact ys).length) 0).flatMap cI).take ((Lib.compact ys).length * 1) = (Lib.compact ys).flatMap cI := by
      rw [List.flatMap_append, List.take_left' (by rw [flatI_map]; simp)]
    rw [htk, ← HRY.out] at hr4
    have hon := HON.out.trans ((only_ahead g (g + 1) w2 q).trans (only_put (Value.int .i64) _ g 0 (Lib.compact ys ++ List.replicate (zs.length - (Lib.compact ys).length) 0).toArray))
    have hown := Own.of_row (xs := R) hr4 rfl rfl
    have HO := Lib.hid hown
    have hfin : Below w.heap.size w _ := hb1.trans (hon.below hg hb1.size)
    clear hr3 hr4 htk hon hown
    rw [← HRY.out] at *
    go_wp2_with fail
    go_ret
    exact ⟨_, rfl, HO.out, hfin⟩
end Go.Proofs.Ytmlfkledhnlkeaa

/- Plain: the nodes of a walk and when it is one of a graph. -/
namespace Go.Proofs.Ytmlfkledhnlkeaa
set_option linter.unusedVariables false
set_option linter.unusedSimpArgs false

def nodesL (g : Gr) (k : Wk) : List Int := k.1 :: k.2.map (stepTo g)
theorem nodesL_len (g : Gr) (k : Wk) : (nodesL g k).length = k.2.length + 1 := by simp [nodesL]
theorem nodesL_succ {g : Gr} {k : Wk} {i : Nat} {s : St} (h : k.2[i]? = some s) : (nodesL g k).take (i + 1 + 1) = (nodesL g k).take (i + 1) ++ [stepTo g s] := by
  refine take_snoc ?_
  rw [nodesL, List.getElem?_cons_succ, List.getElem?_map, h]; rfl
theorem nodesL_next {g : Gr} {k : Wk} {i : Nat} {s : St} (h : k.2[i]? = some s) : (nodesL g k)[i + 1]? = some (stepTo g s) := by rw [nodesL, List.getElem?_cons_succ, List.getElem?_map, h]; rfl
/-- the step leads from the node that the walk is at -/
def linkAt (g : Gr) (k : Wk) (i : Nat) : Bool := stepFrom g (k.2.getD i (0, false)) == (nodesL g k).getD i 0
def walkOk (g : Gr) (k : Wk) : Bool := grOk g && wi k.1 0 ((g.vals.length : Int) - 1) && decide (k.2.length ≤ 60) && (List.range k.2.length).all (linkAt g k)
/-- the nodes of a walk of the graph; none of another -/
def nodesOut (g : Gr) (k : Wk) : List Int := if walkOk g k = true then nodesL g k else []
theorem nodesOut_no {g : Gr} {k : Wk} (h : walkOk g k = false) : nodesOut g k = [] := by rw [nodesOut, h]; rfl
theorem nodesOut_yes {g : Gr} {k : Wk} (h : walkOk g k = true) : nodesOut g k = nodesL g k := by rw [nodesOut, h]; rfl
theorem linkAt_eq {g : Gr} {k : Wk} {i : Nat} {s : St} {x : Int} (h : k.2[i]? = some s) (hx : (nodesL g k)[i]? = some x) : linkAt g k i = (stepFrom g s == x) := by
  rw [linkAt, List.getD_eq_getElem?_getD, h, List.getD_eq_getElem?_getD, hx]; rfl
theorem walkOk_long {g : Gr} {k : Wk} (h : 60 < k.2.length) : walkOk g k = false := by
  rw [walkOk, show decide (k.2.length ≤ 60) = false by simp; omega]
  simp
def walkAllowed (g : Gr) (c : Int) (k : Wk) : Bool := k.2.all (stepAllowed g c) && wi c 0 4 && walkOk g k
end Go.Proofs.Ytmlfkledhnlkeaa

/- Plain: the sets of states along a walk, and whether a walk matches. -/
namespace Go.Proofs.Ytmlfkledhnlkeaa
set_option linter.unusedVariables false
set_option linter.unusedSimpArgs false
/-- node i of a walk -/
def nodeAt (g : Gr) (k : Wk) (i : Nat) : Nat := ((nodesL g k).getD i 0).toNat
def letAt (g : Gr) (k : Wk) (i : Nat) : Nat := (stepLetter g (k.2.getD i (0, false))).toNat
/-- the states behind i steps -/
def setAt (g : Gr) (a : Au) (k : Wk) : Nat → Nat
  | 0 => bit a.start.toNat
  | i + 1 => aft a (setAt g a k i) (valAt g (nodeAt g k i)) (letAt g k i)
def setsL (g : Gr) (a : Au) (k : Wk) (n : Nat) : List Nat := (List.range n).map (setAt g a k)
theorem setsL_len (g : Gr) (a : Au) (k : Wk) (n : Nat) : (setsL g a k n).length = n := by simp [setsL]
theorem setsL_snoc (g : Gr) (a : Au) (k : Wk) (n : Nat) : setsL g a k (n + 1) = setsL g a k n ++ [setAt g a k n] := by simp [setsL, List.range_succ]
theorem setsL_at {g : Gr} {a : Au} {k : Wk} {n i : Nat} (h : i < n) : (setsL g a k n)[i]? = some (setAt g a k i) := by simp [setsL, h]
theorem setAt_lt {g : Gr} {a : Au} (ha : auOk a = true) (k : Wk) (i : Nat) : setAt g a k i < 2 ^ a.accept.length := by
  cases i with
  | zero => exact bit_lt (by have := (auOk_iff.1 ha).2.1; omega)
  | succ i => exact aft_lt ha _ _ _
theorem walkOk_parts {g : Gr} {k : Wk} (h : walkOk g k = true) : GrOk g ∧ (0 ≤ k.1 ∧ k.1 ≤ (g.vals.length : Int) - 1) ∧ k.2.length ≤ 60 ∧ ∀ i, i < k.2.length → linkAt g k i = true := by
  simp only [walkOk, Bool.and_eq_true, wi_iff, decide_eq_true_eq, List.all_eq_true, List.mem_range] at h
  exact ⟨grOk_iff.1 h.1.1.1, h.1.1.2, h.1.2, h.2⟩
theorem stepTo_of {g : Gr} {s : St} {e : Ed} (h : stepEd g s.1 = some e) : stepTo g s = arcTo s.2 e := by
  unfold stepTo stepFrom arcTo
  simp only [h]
  cases s.2 <;> rfl
theorem stepFrom_of {g : Gr} {s : St} {e : Ed} (h : stepEd g s.1 = some e) : stepFrom g s = arcTo (!s.2) e := by
  unfold stepFrom arcTo
  simp only [h]
  cases s.2 <;> rfl
theorem stepLetter_of {g : Gr} {s : St} {e : Ed} (h : stepEd g s.1 = some e) : stepLetter g s = arcLetter s.2 e := by
  unfold stepLetter arcLetter
  simp only [h]
theorem nodeAt_at {g : Gr} {k : Wk} {i : Nat} (h : i ≤ k.2.length) : (nodesL g k)[i]? = some ((nodesL g k).getD i 0) := by
  rw [List.getD_eq_getElem?_getD, List.getElem?_eq_getElem (by rw [nodesL_len]; omega)]; rfl
/-- the nodes of a walk of the graph are nodes of the graph, and its steps are edges of it -/
theorem walk_parts {g : Gr} {k : Wk} (h : walkOk g k = true) : ∀ {i : Nat}, i ≤ k.2.length → (0 ≤ (nodesL g k).getD i 0 ∧ (nodesL g k).getD i 0 ≤ (g.vals.length : Int) - 1) ∧
    (i < k.2.length → ∃ s e, k.2[i]? = some s ∧ stepEd g s.1 = some e ∧ stepFrom g s = (nodesL g k).getD i 0 ∧ stepTo g s = (nodesL g k).getD (i + 1) 0) := by
  obtain ⟨hg, hk, -, hl⟩ := walkOk_parts h
  have step : ∀ i, i < k.2.length → 0 ≤ (nodesL g k).getD i 0 → ∃ s e, k.2[i]? = some s ∧ stepEd g s.1 = some e ∧ stepFrom g s = (nodesL g k).getD i 0 ∧ stepTo g s = (nodesL g k).getD (i + 1) 0 := by
    intro i hi h0
    have hs : k.2[i]? = some k.2[i] := List.getElem?_eq_getElem hi
    generalize k.2[i] = s at hs
    have hlk := hl i hi
    rw [linkAt_eq hs (nodeAt_at (by omega)), beq_iff_eq] at hlk
    have hnx := nodesL_next (g := g) hs
    have hnx2 := nodeAt_at (g := g) (k := k) (i := i + 1) (by omega)
    rw [hnx] at hnx2
    cases he : stepEd g s.1 with
    | none =>
      have := stepFrom_neg.2 he
      omega
    | some e => exact ⟨s, e, hs, he, hlk, by injection hnx2⟩
  intro i
  induction i with
  | zero => exact fun _ => ⟨hk, fun hi => step 0 hi hk.1⟩
  | succ i ih =>
    intro hi
    obtain ⟨hr, hst⟩ := ih (by omega)
    obtain ⟨s, e, hs, he, hf, ht⟩ := hst (by omega)
    have hrange : 0 ≤ stepTo g s ∧ stepTo g s ≤ (g.vals.length : Int) - 1 := by
      rw [stepTo_of he]
      obtain ⟨_, hm, _⟩ := stepEd_ok he
      have := hg.edges e hm
      unfold arcTo
      split <;> omega
    rw [ht] at hrange
    exact ⟨hrange, fun hi2 => step (i + 1) hi2 hrange.1⟩
theorem nodeAt_lt {g : Gr} {k : Wk} (h : walkOk g k = true) {i : Nat} (hi : i ≤ k.2.length) : (nodesL g k)[i]? = some (nodeAt g k i : Int) ∧ nodeAt g k i < g.vals.length := by
  have h1 := (walk_parts h hi).1
  refine ⟨?_, ?_⟩
  · rw [nodeAt_at hi, nodeAt, Int.toNat_of_nonneg h1.1]
  · unfold nodeAt; omega
/-- step i: its edge, its letter, the node behind it -/
theorem walk_step {g : Gr} {k : Wk} (h : walkOk g k = true) {i : Nat} (hi : i < k.2.length) : ∃ s e, k.2[i]? = some s ∧ stepEd g s.1 = some e ∧ arcTo s.2 e = (nodeAt g k (i + 1) : Int) ∧ arcLetter s.2 e = (letAt g k i : Int) ∧ stepLetter g s = (letAt g k i : Int) ∧ letAt g k i < 6 := by
  obtain ⟨s, e, hs, he, -, ht⟩ := (walk_parts h (Nat.le_of_lt hi)).2 hi
  obtain ⟨hg, hm, _⟩ := stepEd_ok he
  have hl := hg.edges e hm
  have h1 := (walk_parts h (show i + 1 ≤ k.2.length from hi)).1
  have hsd : k.2.getD i (0, false) = s := by rw [List.getD_eq_getElem?_getD, hs]; rfl
  have hr : 0 ≤ arcLetter s.2 e ∧ arcLetter s.2 e ≤ 5 := by
    unfold arcLetter
    split <;> omega
  have hla : (letAt g k i : Int) = arcLetter s.2 e := by rw [letAt, hsd, stepLetter_of he, Int.toNat_of_nonneg hr.1]
  refine ⟨s, e, hs, he, ?_, hla.symm, by rw [stepLetter_of he, hla], by omega⟩
  rw [← stepTo_of he, ht, nodeAt, Int.toNat_of_nonneg h1.1]
/-! ### Whether a walk matches -/
def walkEnd (g : Gr) (k : Wk) : Int := if walkOk g k = true then (nodeAt g k k.2.length : Int) else -1
def matchB (g : Gr) (a : Au) (k : Wk) : Bool := (walkOk g k && auOk a) && acc a (setAt g a k k.2.length) (valAt g (nodeAt g k k.2.length))
def isWit (g : Gr) (a : Au) (x y : Int) (k : Wk) : Bool := (k.1 == x && walkEnd g k == y) && matchB g a k
def alongS (g : Gr) (a : Au) (k : Wk) : List Nat := if (walkOk g k && auOk a) = true then setsL g a k (k.2.length + 1) else []
def alongN (g : Gr) (a : Au) (k : Wk) : List Int := if (walkOk g k && auOk a) = true then nodesL g k else []
end Go.Proofs.Ytmlfkledhnlkeaa

