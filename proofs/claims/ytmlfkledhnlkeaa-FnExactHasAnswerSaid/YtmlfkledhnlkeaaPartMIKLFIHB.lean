/- Parts of the proof, joined into one text: Rows2, FromS, StepS, HeldL. -/
import Derived.Test.YtmlfkledhnlkeaaPartCAPLBKNO
import Derived.Test.YtmlfkledhnlkeaaPartKBLPOAAF
import Derived.Deep.RegionHeld3
import Derived.Deep.AppendLies
import Derived.Test.YtmlfkledhnlkeaaPartNFLNBJAP
/- A slice of slices that the call itself made and fills row by row; appending in a region that draws its order. Over any program. -/
namespace Go.Proofs.Ytmlfkledhnlkeaa
set_option linter.unusedVariables false
set_option linter.unusedSimpArgs false
open Go.ChangeShapes Go.WideShapes Go.ChangeAt Go.RowKit

section
variable {α : Type} {w w' : World} {base : Nat} {oT rT e : TypeId} {E : α → List Value} {k : Nat} {g : Nat} {hs : List Value} {xss : List (List α)} {v : Value} {n : Nat} {cs : List Value}
theorem ownsRow_block (h : w.ownsRow base e k v n cs) (hb : ∀ g, v.ownBlock = some g → w'.heap[g]? = w.heap[g]?) : w'.ownsRow base e k v n cs := by
  obtain ⟨hl, h⟩ := h
  refine ⟨hl, ?_⟩
  rcases h with h | ⟨g, cap, cur, rfl, hg, hh, r⟩
  · exact .inl h
  · exact .inr ⟨g, cap, cur, rfl, hg, (hb g rfl).trans hh, r⟩
theorem ownsRow_mono (h : w.ownsRow base e k v n cs) {b : Nat} (hb : b ≤ base) : w.ownsRow b e k v n cs := by
  obtain ⟨hl, h⟩ := h
  refine ⟨hl, ?_⟩
  rcases h with h | ⟨g, cap, cur, rfl, hg, r⟩
  · exact .inl h
  · exact .inr ⟨g, cap, cur, rfl, by omega, r⟩

structure Rws {α : Type} (w : World) (base : Nat) (oT rT : TypeId) (E : α → List Value) (k : Nat) (g : Nat) (hs : List Value) (xss : List (List α)) : Prop where
  own : w.ownsRow g oT 1 (.slice (some ⟨g, 0, none⟩) hs.length hs.length) hs.length hs
  len : hs.length = xss.length
  row : ∀ (i : Nat) (h : Value) (xs : List α), hs[i]? = some h → xss[i]? = some xs → w.ownsRow base rT k h xs.length (xs.flatMap E)
  far : ∀ (i : Nat) (h : Value), hs[i]? = some h → h.ownBlock ≠ some g
  apart : ∀ (i j : Nat) (h h' : Value), i ≠ j → hs[i]? = some h → hs[j]? = some h' → h.ownBlock = none ∨ h.ownBlock ≠ h'.ownBlock
theorem Rws.blocks (h : Rws w base oT rT E k g hs xss) (hb : ∀ b, (b = g ∨ base ≤ b) → b < w.heap.size → w'.heap[b]? = w.heap[b]?) : Rws w' base oT rT E k g hs xss := by
  refine ⟨ownsRow_block h.own fun b hb' => hb b (.inl (by simpa [Value.ownBlock] using hb'.symm)) (h.own.lt b hb').2, h.len, fun i v xs hi hx => ?_, h.far, h.apart⟩
  have := h.row i v xs hi hx
  exact ownsRow_block this fun b hb' => hb b (.inr (this.lt b hb').1) (this.lt b hb').2
theorem Rws.below (h : Rws w base oT rT E k g hs xss) (hb : Below w.heap.size w w') : Rws w' base oT rT E k g hs xss := h.blocks fun b _ hlt => hb.block b hlt
theorem Rws.gLt (h : Rws w base oT rT E k g hs xss) : g ≤ g ∧ g < w.heap.size := h.own.lt g rfl
theorem Rws.cell (h : Rws w base oT rT E k g hs xss) {i : Nat} {v : Value} (hi : hs[i]? = some v) : w.cell? ⟨g, i, none⟩ = some v :=
  (World.ownsRow.cellAt h.own i (by have := (List.getElem?_eq_some_iff.1 hi).1; omega)).trans hi
theorem Rws.frozen (h : Rws w base oT rT E k g hs xss) (i : Nat) : w.frozen? ⟨g, i, none⟩ = false := World.ownsRow.frozenAt h.own i
theorem Rws.made (h : w.ownsRow g oT 1 (.slice (some ⟨g, 0, none⟩) n n) n ((List.replicate n (Value.slice none 0 0)).flatMap cV)) : Rws w base oT rT E k g (List.replicate n (.slice none 0 0)) (List.replicate n ([] : List α)) := by
  have hf : ∀ n, (List.replicate n (Value.slice none 0 0)).flatMap cV = List.replicate n (.slice none 0 0) := by
    intro n
    induction n with
    | zero => rfl
    | succ n ih => rw [List.replicate_succ, List.flatMap_cons, ih]; rfl
  have hv : ∀ {i : Nat} {h : Value}, (List.replicate n (Value.slice none 0 0))[i]? = some h → h = .slice none 0 0 := by
    intro i h hi
    rw [List.getElem?_replicate] at hi
    split at hi
    · injection hi with hi; exact hi.symm
    · cases hi
  rw [hf] at h
  refine ⟨by simpa using h, by simp, fun i h xs hi hx => ?_, fun i h hi => ?_, fun i j h h' _ hi _ => .inl ?_⟩
  · have := hv hi
    subst this
    have hx' : xs = [] := by
      rw [List.getElem?_replicate] at hx
      split at hx
      · injection hx with hx; exact hx.symm
      · cases hx
    subst hx'
    exact World.ownsRow_nil w base rT k
  · have := hv hi
    subst this
    simp [Value.ownBlock]
  · have := hv hi
    subst this
    rfl
/-- row i grows by x: the append law's words, then the store of the new header -/
theorem Rws.push (h : Rws w base oT rT E k g hs xss) {i : Nat} {hv : Value} {xs : List α} {x : α} {v' : Value} {g2 : Nat} (hi : hs[i]? = some hv) (hx : xss[i]? = some xs)
    (hown : w'.ownsRow base rT k v' (xs ++ [x]).length ((xs ++ [x]).flatMap E)) (hg : w.grownBy w' hv.ownBlock) (hv' : v'.ownBlock = some g2) (hat : hv.ownBlock = some g2 ∨ w.heap.size ≤ g2) :
    Rws (w'.setCell ⟨g, i, none⟩ v') base oT rT E k g (hs.set i v') (xss.set i (xs ++ [x])) := by
  have hgl := h.gLt
  have hil := (List.getElem?_eq_some_iff.1 hi).1
  have hfar := h.far i hv hi
  have hg2 : g2 ≠ g := by
    rcases hat with h1 | h1
    · intro e; subst e; exact hfar h1
    · omega
  have hset : ∀ b, b ≠ g → (w'.setCell ⟨g, i, none⟩ v').heap[b]? = w'.heap[b]? := fun b hb => Below.heap_setCell _ _ _ _ hb
  have ho1 : w'.ownsRow g oT 1 (.slice (some ⟨g, 0, none⟩) hs.length hs.length) hs.length hs := h.own.kept hg (.inr (by simpa [Value.ownBlock] using Ne.symm hfar))
  have ho2 := (World.ownsRow.stored ho1 i v').1
  refine ⟨by simpa using ho2, by simp [h.len], fun j u ys hj hy => ?_, fun j u hj => ?_, fun j l u u' hjl hj hl => ?_⟩
  · rw [List.getElem?_set] at hj hy
    by_cases e : i = j
    · subst e
      rw [if_pos rfl] at hj hy
      rw [if_pos hil] at hj
      rw [if_pos (by rw [← h.len]; exact hil)] at hy
      injection hj with hj
      injection hy with hy
      subst hj hy
      exact ownsRow_block hown fun b hb => hset b (by rw [hv'] at hb; injection hb with hb; omega)
    · rw [if_neg e] at hj hy
      have hr := h.row j u ys hj hy
      have hr2 : w'.ownsRow base rT k u ys.length (ys.flatMap E) := hr.kept hg (h.apart j i u hv (Ne.symm e) hj hi)
      exact ownsRow_block hr2 fun b hb => hset b (by intro e2; subst e2; exact h.far j u hj hb)
  · rw [List.getElem?_set] at hj
    by_cases e : i = j
    · subst e
      rw [if_pos rfl, if_pos hil] at hj
      injection hj with hj
      subst hj
      rw [hv']
      simpa using hg2
    · rw [if_neg e] at hj
      exact h.far j u hj
  · have hold : ∀ (j : Nat) (u : Value), j ≠ i → hs[j]? = some u → u.ownBlock = none ∨ u.ownBlock ≠ some g2 := by
      intro j u hji hj
      rcases hat with h1 | h1
      · rcases h.apart j i u hv hji hj hi with h2 | h2
        · exact .inl h2
        · rw [h1] at h2; exact .inr h2
      · cases hu : u.ownBlock with
        | none => exact .inl rfl
        | some b =>
          refine .inr ?_
          have hjl := (List.getElem?_eq_some_iff.1 hj).1
          have hjx : j < xss.length := by rw [← h.len]; exact hjl
          have hr := h.row j u xss[j] hj (List.getElem?_eq_getElem hjx)
          have := (hr.lt b hu).2
          simp only [ne_eq, Option.some.injEq]
          omega
    rw [List.getElem?_set] at hj hl
    by_cases e : i = j
    · subst e
      rw [if_neg hjl] at hl
      rw [if_pos rfl, if_pos hil] at hj
      injection hj with hj
      subst hj
      refine .inr ?_
      rw [hv']
      rcases hold l u' (Ne.symm hjl) hl with h1 | h1
      · rw [h1]; simp
      · exact Ne.symm h1
    · rw [if_neg e] at hj
      by_cases e2 : i = l
      · subst e2
        rw [if_pos rfl, if_pos hil] at hl
        injection hl with hl
        subst hl
        rw [hv']
        exact hold j u (Ne.symm e) hj
      · rw [if_neg e2] at hl
        exact h.apart j l u u' hjl hj hl

/-- a slice of slices of E's that is only read; its blocks lie from lo to hi -/
def SSE {α : Type} (lo hi : Nat) (w : World) (E : α → List Value) (k : Nat) (v : Value) (xss : List (List α)) : Prop :=
  ∃ A c, v = .slice A xss.length c ∧ xss.length ≤ c ∧ c ≤ 9223372036854775807 ∧
    ∀ (i : Nat) (xs : List α), xss[i]? = some xs → ∃ b o u, A = some ⟨b, o, none⟩ ∧ lo ≤ b ∧ b < hi ∧ w.cell? ⟨b, o + i, none⟩ = some u ∧ SlI lo hi w E k u xs
theorem SSE.keep_ {lo hi : Nat} {v : Value} (h : SSE lo hi w E k v xss) (hb : ∀ b o, lo ≤ b → b < hi → w'.cell? ⟨b, o, none⟩ = w.cell? ⟨b, o, none⟩) : SSE lo hi w' E k v xss := by
  obtain ⟨A, c, h1, h2, h3, h4⟩ := h
  refine ⟨A, c, h1, h2, h3, fun i xs hx => ?_⟩
  obtain ⟨b, o, u, g1, g2, g3, g4, g5⟩ := h4 i xs hx
  exact ⟨b, o, u, g1, g2, g3, (hb _ _ g2 g3).trans g4, g5.keep_ hb⟩
theorem SSE.below {lo hi : Nat} {v : Value} (h : SSE lo hi w E k v xss) {B : Nat} (hb : Below B w w') (hB : hi ≤ B) : SSE lo hi w' E k v xss := h.keep_ fun b o _ h2 => hb.cell (p := ⟨b, o, none⟩) (show b < B by omega)
theorem SSE.only {lo hi l r : Nat} {v : Value} (h : SSE lo hi w E k v xss) (hb : Only l r w w') (hh : hi ≤ w.heap.size) (ho : hi ≤ l ∨ r ≤ lo) : SSE lo hi w' E k v xss :=
  h.keep_ fun b o h1 h2 => hb.cell (p := ⟨b, o, none⟩) (show b < _ by omega) (show b < l ∨ r ≤ b by omega)
theorem SSE.mono {lo hi lo' hi' : Nat} {v : Value} (h : SSE lo hi w E k v xss) (h1 : lo' ≤ lo) (h2 : hi ≤ hi') : SSE lo' hi' w E k v xss := by
  obtain ⟨A, c, e1, e2, e3, h4⟩ := h
  refine ⟨A, c, e1, e2, e3, fun i xs hx => ?_⟩
  obtain ⟨b, o, u, g1, g2, g3, g4, g5⟩ := h4 i xs hx
  exact ⟨b, o, u, g1, by omega, by omega, g4, g5.mono h1 h2⟩
theorem SSE.keep {v : Value} (h : SSE 0 w.heap.size w E k v xss) (hb : Below w.heap.size w w') : SSE 0 w'.heap.size w' E k v xss := (h.below hb (Nat.le_refl _)).mono (Nat.le_refl _) hb.size
theorem SSE.shape {lo hi : Nat} {v : Value} (h : SSE lo hi w E k v xss) : ∃ A c, v = .slice A xss.length c ∧ xss.length ≤ c ∧ c ≤ 9223372036854775807 := by
  obtain ⟨A, c, e1, e2, e3, _⟩ := h
  exact ⟨A, c, e1, e2, e3⟩
/-- row i, as a walk wants it -/
theorem SSE.row {lo hi : Nat} {A : Option Addr} {n c : Nat} (h : SSE lo hi w E k (.slice A n c) xss) (hh : hi ≤ w.heap.size) {i : Nat} {xs : List α} (hx : xss[i]? = some xs) :
    ∃ b o A3 c3, A = some ⟨b, o, none⟩ ∧ lo ≤ b ∧ b < hi ∧ w.cell? ⟨b, o + i, none⟩ = some (.slice A3 xs.length c3) ∧ xs.length ≤ c3 ∧ c3 ≤ 9223372036854775807 ∧ SlI lo hi w E k (.slice A3 xs.length c3) xs ∧ SlC w.heap.size w E k A3 xs := by
  obtain ⟨A', c', e1, e2, e3, h4⟩ := h
  obtain ⟨b, o, u, g1, g2, g3, g4, g5⟩ := h4 i xs hx
  injection e1 with e1 _ _
  subst e1
  obtain ⟨A3, c3, rfl, f1, f2, f3⟩ := SlE.form (g5.all hh)
  exact ⟨b, o, A3, c3, g1, g2, g3, g4, f1, f2, g5, f3⟩
theorem Rws.sse (h : Rws w base oT rT E k g hs xss) (hE : ∀ x, (E x).length = k) {lo : Nat} (h1 : lo ≤ g) (h2 : lo ≤ base) : SSE lo w.heap.size w E k (.slice (some ⟨g, 0, none⟩) hs.length hs.length) xss := by
  have hgl := h.gLt
  refine ⟨some ⟨g, 0, none⟩, hs.length, by rw [h.len], by rw [h.len]; exact Nat.le_refl _, ?_, fun i xs hx => ?_⟩
  · obtain ⟨_, h1⟩ := h.own
    rcases h1 with ⟨h1, _⟩ | ⟨g', cap, cur, h1, _, _, h2, h3, _⟩
    · cases h1
    · unfold maxLen at h3
      omega
  · have hil := (List.getElem?_eq_some_iff.1 hx).1
    have hih : i < hs.length := by rw [h.len]; exact hil
    have hi : hs[i]? = some hs[i] := List.getElem?_eq_getElem hih
    have hr : Own base w.heap.size w rT E k hs[i] xs := ⟨h.row i _ xs hi hx, fun g hg => ((h.row i _ xs hi hx).lt g hg).2⟩
    exact ⟨g, 0, hs[i], rfl, h1, hgl.2, by rw [Nat.zero_add, h.cell hi], (hr.sl hE).mono h2 (Nat.le_refl _)⟩
end

section
variable {P : Program} {w : World}
/-- append(s, x) at a step of a region that draws its order; the one element lies in block H -/
theorem step_append1 {α : Type} (E : α → List Value) {ops : Array Oper} {o : Oper} {a : Act} {K : Act → World → Prop} {Q : Exit → Act → World → Prop} {EE : Prop} {t e : TypeId} {z : Value} {k bytes : Nat} (el : ElemOk P t e z k bytes)
    (hgd : o.guard = none) (s y : Operand) (ho : o.op = .call { callee := .builtin .append, args := #[s, y], argTypes := #[t, t] })
    (base : Nat) (v : Value) (xs : List α) (x : α) (c H : Nat) (hs : a.eval s = v) (hown : w.ownsRow base e k v xs.length (xs.flatMap E)) (hy : a.eval y = .slice (some ⟨H, 0, none⟩) 1 c)
    (hH : w.heap[H]? = some (.cells (E x).toArray e (0, 0))) (hE : (E x).length = k) (h1 : ∀ u ∈ E x, u.oneCell' = true) (hbytes : (xs.length + 1) * bytes ≤ 140737488355328) (hb0 : 0 < bytes) (hbase : base ≤ w.heap.size)
    (h : ∀ g cap w', w'.ownsRow base e k (.slice (some ⟨g, 0, none⟩) (xs.length + 1) cap) (xs ++ [x]).length ((xs ++ [x]).flatMap E) → w.grownBy w' v.ownBlock → (v.ownBlock = some g ∨ w.heap.size ≤ g) → g < w'.heap.size →
      K (a.put o.dst (.slice (some ⟨g, 0, none⟩) (xs.length + 1) cap)) w') :
    if Region.wanted o (yielded ops a.tmps) = true then Oper.wp P o a w K Q else EE := by
  obtain ⟨i, hi, hz0, hz1, hz2⟩ := info_parts el.info
  have hlen : xs.length + 1 ≤ 140737488355328 := Nat.le_trans (Nat.le_mul_of_pos_right _ hb0) hbytes
  refine step_append_lies w hgd s y t ho base e i z k bytes el.und hi hz0 hz1 hz2 el.zc el.pos v xs.length (xs.flatMap E) hs hown ⟨H, 0, none⟩ 1 c (E x) hy (by rw [hE, Nat.one_mul])
    (by have := World.news_of_block hH; simpa using this) h1 (by omega) (by unfold maxLen; omega) hbytes hbase w.heap.size rfl fun g cap w' h2 h3 h4 h5 => ?_
  refine h g cap w' (by simpa using h2) h3 ?_ h5
  rcases h4 with h4 | h4
  · exact .inl h4
  · exact .inr (by omega)
end
theorem ocell {lo hi : Nat} {w w' : World} (h : Only lo hi w w') {b o : Nat} {v : Value} (hc : w.cell? ⟨b, o, none⟩ = some v) (hb : b < w.heap.size) (ho : b < lo ∨ hi ≤ b) : w'.cell? ⟨b, o, none⟩ = some v := (h.cell (p := ⟨b, o, none⟩) hb ho).trans hc
theorem SlI.nat {lo hi : Nat} {w : World} {A : Option Addr} {n c : Nat} {xs : List Nat} (h : SlI lo hi w cN 1 (.slice A n c) xs) {i : Nat} {x : Nat} (hx : xs[i]? = some x) :
    ∃ b o, A = some ⟨b, o, none⟩ ∧ lo ≤ b ∧ b < hi ∧ w.cell? ⟨b, o + i, none⟩ = some (.int .i64 (x : Int)) := by
  obtain ⟨A', c', hv, _, _, h3⟩ := h
  injection hv with h1 _ _
  subst h1
  obtain ⟨b, o, e, g1, g2, hc⟩ := h3 i x hx
  exact ⟨b, o, e, g1, g2, by simpa using hc 0 _ rfl⟩
/-- an append to a row, then the store of its header: only that row's block and the header block have turned -/
theorem Only.pushed {lo hi g i : Nat} {a w w' : World} {row : Option Nat} {u : Value} (h : Only lo hi a w) (hg : w.grownBy w' row) (hr : ∀ b, row = some b → (lo ≤ b ∧ b < hi) ∨ a.heap.size ≤ b) (hgb : (lo ≤ g ∧ g < hi) ∨ a.heap.size ≤ g) : Only lo hi a (w'.setCell ⟨g, i, none⟩ u) :=
  Only.setCell ⟨hg.os.trans h.os, hg.tape.trans h.tape, hg.output.trans h.output, Nat.le_trans h.size hg.size, fun n hn ho => (hg.block n (Nat.lt_of_lt_of_le hn h.size) (fun e => by have := hr n e.symm; omega)).trans (h.block n hn ho)⟩ hgb _
theorem flatI_at {xs : List Int} {t : Nat} {x : Int} (h : xs[t]? = some x) : (xs.flatMap cI)[t]? = some (.int .i64 x) := by
  have := flat_at cI_len h 0 _ rfl
  simpa using this
theorem flatI_set (xs : List Int) (t : Nat) (x : Int) : (xs.flatMap cI).set t (.int .i64 x) = (xs.set t x).flatMap cI := by
  induction xs generalizing t with
  | nil => simp
  | cons y xs ih =>
    cases t with
    | zero => rfl
    | succ t =>
      have := ih t
      simp only [List.set_cons_succ, List.flatMap_cons, cI, List.cons_append, List.nil_append] at this ⊢
      rw [this]
theorem getD_of {D : List Int} {k : Nat} (h : k < D.length) : D[k]? = some (D.getD k 0) := by
  simp [List.getD, List.getElem?_eq_getElem h]
end Go.Proofs.Ytmlfkledhnlkeaa

/- The reference's l4From: the steps from a node. -/
namespace Go.Proofs.Ytmlfkledhnlkeaa
set_option linter.unusedVariables false
set_option linter.unusedSimpArgs false
open Go.ChangeShapes Go.WideShapes Go.ChangeAt Go.RowKit
attribute [local go_sem] ext_cell ext_frozen ext_lt ext_lt1 ext_lt2 ext_lt3 ltn2 ltn3 ltn13 lts1 lts2 lts3

def fromTo (g : Gr) (x : Int) (i : Nat) : List St := ((g.edges.take i).flatMap (arcE x)).map (·.1)
theorem fromTo_len (g : Gr) (x : Int) (i : Nat) : (fromTo g x i).length ≤ i * 2 := by
  unfold fromTo
  rw [List.length_map]
  have h1 := flat_len (arcE_len x) (g.edges.take i)
  rw [List.length_take] at h1
  have : min i g.edges.length * 2 ≤ i * 2 := Nat.mul_le_mul_right 2 (Nat.min_le_left _ _)
  omega
theorem fromTo_succ {g : Gr} {x : Int} {i : Nat} {e : Ed} (he : g.edges[i]? = some e) : fromTo g x (i + 1) = (fromTo g x i ++ if e.2.1 = x then [(e.1, false)] else []) ++ if e.2.2.1 = x then [(e.1, true)] else [] := by
  unfold fromTo
  rw [flat_take he, List.map_append, List.append_assoc]
  congr 1
  unfold arcE
  by_cases h1 : e.2.1 = x <;> by_cases h2 : e.2.2.1 = x <;> simp [h1, h2]
theorem elStF : ElemOk Try.prog 62 142 (.agg #[.int .i64 0, .bool false]) 2 16 := ⟨Try.underlying62, by kernel_rfl, rfl, by omega⟩
set_option maxHeartbeats 4000000 in
theorem l4From_any (vg : Value) (g : Gr) (x : Int) (w : World) (hgv : GrV 0 w.heap.size w vg g) (he12 : g.edges.length ≤ 12) :
    Calls Try.prog 116 #[vg, .int .i64 x] w fun e w' => ∃ v', e = .returned v' ∧ Own w.heap.size w'.heap.size w' 142 cSt 2 v' ((arcsOf g x).map (·.1)) ∧ Below w.heap.size w w' := by
  obtain ⟨A1, c1, A2, c2, rfl, hl1, hm1, hl2, hm2, -, hC2⟩ := hgv.form
  have HC2 := Lib.hid hC2
  have hb0 : Below w.heap.size w (w.alloc (.cells #[.slice A1 g.vals.length c1, .slice A2 g.edges.length c2] 48)) := (Below.refl _ _).alloc (Nat.le_refl _) _
  obtain ⟨R, hR⟩ : ∃ R, R = (arcsOf g x).map (·.1) := ⟨_, rfl⟩
  rw [← hR]
  have HR := Lib.hid hR
  clear hgv hC2 hR
  go_enter Try.func116, Try.ntmps116
  go_wp2_with fail
  obtain ⟨W0, hW0⟩ : ∃ W0, W0 = (w.alloc (.cells #[.slice A1 g.vals.length c1, .slice A2 g.edges.length c2] 48)) := ⟨_, rfl⟩
  rw [← hW0] at hb0 ⊢
  have x0 : W0.cell? ⟨w.heap.size, 1, none⟩ = some (.slice A2 g.edges.length c2) := by rw [hW0]; simp
  have hs0 : w.heap.size + 1 = W0.heap.size := by rw [hW0]; simp
  rw [hs0]
  have l0 : w.heap.size < W0.heap.size := by omega
  clear hW0 hs0
  go_loopw [5, 6] (fun out ii wr => ∃ i : Nat, i ≤ g.edges.length ∧ ii = .int .i64 (i : Int) ∧ wr.ownsRow W0.heap.size 142 2 out (fromTo g x i).length ((fromTo g x i).flatMap cSt) ∧ Below W0.heap.size W0 wr) (fun _ ii _ => g.edges.length - (intOf ii).toNat)
  case atStart => exact ⟨0, Nat.zero_le _, rfl, World.ownsRow_lit W0 #[] 0 (Nat.le_refl _) (by decide) rfl, (Below.refl _ _).alloc (Nat.le_refl _) _⟩
  case round =>
    obtain ⟨i, hi, rfl, hrow, hbel⟩ := hrel
    have HROW := Lib.hid hrow
    have hlen := fromTo_len g x i
    have x0 := kcell hbel x0
    have l1 := Nat.lt_of_lt_of_le l0 hbel.size
    have hsz := hbel.size
    clear hrow
    by_cases hlt : i < g.edges.length
    · have hei : g.edges[i]? = some g.edges[i] := List.getElem?_eq_getElem hlt
      generalize g.edges[i] = e at hei
      obtain ⟨b, o, rfl, hb, q0, q1, q2, -⟩ := HC2.out.ed hei
      have hbw := below_trans hb0 hbel
      have q0 := kcell hbw q0
      have q1 := kcell hbw q1
      have q2 := kcell hbw q2
      have hsu := fromTo_succ (x := x) hei
      have HSU := Lib.hid hsu
      obtain ⟨eid, ef, et, el⟩ := e
      simp only at q0 q1 q2 HSU
      clear hei hsu hbw
      by_cases h1 : ef = x <;> by_cases h2 : et = x
      · have k1 : (ef == x) = true := by simpa using h1
        have k2 : (et == x) = true := by simpa using h2
        rw [if_pos h1, if_pos h2] at HSU
        clear h1 h2
        have tok1 : True := trivial
        go_wp2_with (first | (at_builtin; have _t := tok1; (refine wpList_append1 cSt elStF rfl _ _ rfl W0.heap.size _ (fromTo g x i) (eid, false) _ 1 _ (by rfl) HROW.out (by rfl) rfl rfl rfl (cSt_one _) (by omega) (by omega) hsz ?_); intro v' w4 hrow' hb4 _ _; clear tok1; have HR4 := Lib.hid hrow'; clear hrow'; have q0 := (hb4.cell (p := ⟨b, o + i * 4, none⟩) (by simp only; omega)).trans q0; have q2 := (hb4.cell (p := ⟨b, o + i * 4 + 2, none⟩) (by simp only; omega)).trans q2; have x0 := (hb4.cell (p := ⟨w.heap.size, 1, none⟩) (by simp only; omega)).trans x0; have hsz4 := hb4.size) | (at_builtin; (refine wpList_append1 cSt elStF rfl _ _ rfl W0.heap.size _ (fromTo g x i ++ [(eid, false)]) (eid, true) _ 1 _ (by rfl) HR4.out (by rfl) rfl rfl rfl (cSt_one _) (by simp only [List.length_append, List.length_singleton]; omega) (by omega) (by omega) ?_); intro v' w5 hrow' hb5 _ _))
        go_roundw
        case rel => exact ⟨i + 1, by omega, by go_num, by rw [HSU.out]; exact hrow', (hbel.trans hb4).trans hb5⟩
        case measure => simp [intOf]; omega
      · have k1 : (ef == x) = true := by simpa using h1
        have k2 : (et == x) = false := by simpa using h2
        rw [if_pos h1, if_neg h2, List.append_nil] at HSU
        clear h1 h2
        go_wp2_with (at_builtin; (refine wpList_append1 cSt elStF rfl _ _ rfl W0.heap.size _ (fromTo g x i) (eid, false) _ 1 _ (by rfl) HROW.out (by rfl) rfl rfl rfl (cSt_one _) (by omega) (by omega) hsz ?_); intro v' w4 hrow' hb4 _ _; have HR4 := Lib.hid hrow'; clear hrow'; have q2 := (hb4.cell (p := ⟨b, o + i * 4 + 2, none⟩) (by simp only; omega)).trans q2; have x0 := (hb4.cell (p := ⟨w.heap.size, 1, none⟩) (by simp only; omega)).trans x0)
        go_roundw
        case rel => exact ⟨i + 1, by omega, by go_num, by rw [HSU.out]; exact HR4.out, hbel.trans hb4⟩
        case measure => simp [intOf]; omega
      · have k1 : (ef == x) = false := by simpa using h1
        have k2 : (et == x) = true := by simpa using h2
        rw [if_neg h1, if_pos h2, List.append_nil] at HSU
        clear h1 h2
        go_wp2_with (at_builtin; (refine wpList_append1 cSt elStF rfl _ _ rfl W0.heap.size _ (fromTo g x i) (eid, true) _ 1 _ (by rfl) HROW.out (by rfl) rfl rfl rfl (cSt_one _) (by omega) (by omega) hsz ?_); intro v' w4 hrow' hb4 _ _)
        go_roundw
        case rel => exact ⟨i + 1, by omega, by go_num, by rw [HSU.out]; exact hrow', hbel.trans hb4⟩
        case measure => simp [intOf]; omega
      · have k1 : (ef == x) = false := by simpa using h1
        have k2 : (et == x) = false := by simpa using h2
        rw [if_neg h1, if_neg h2, List.append_nil, List.append_nil] at HSU
        clear h1 h2
        go_wp2_with fail
        go_roundw
        case rel => exact ⟨i + 1, by omega, by go_num, by rw [HSU.out]; exact HROW.out, hbel⟩
        case measure => simp [intOf]; omega
    · obtain rfl : i = g.edges.length := by omega
      have hall : fromTo g x g.edges.length = R := by rw [HR.out, fromTo, List.take_length]; rfl
      have hown := Own.of_row (xs := fromTo g x g.edges.length) (ownsRow_mono HROW.out hb0.size) rfl rfl
      rw [hall] at hown
      have HO := Lib.hid hown
      clear hown hall
      go_wp2_with fail
      go_ret
      exact ⟨_, rfl, HO.out, below_trans hb0 hbel⟩
end Go.Proofs.Ytmlfkledhnlkeaa

/- The reference's steps of a graph: where they lead from and to, and whether they are allowed. -/
namespace Go.Proofs.Ytmlfkledhnlkeaa
set_option linter.unusedVariables false
set_option linter.unusedSimpArgs false
open Go.ChangeShapes Go.WideShapes Go.ChangeAt Go.RowKit
attribute [local go_sem] ext_cell ext_frozen ext_lt ext_lt1 ext_lt2 ext_lt3 ltn2 ltn3 ltn13 lts1 lts2 lts3

set_option maxHeartbeats 1000000 in
theorem specEdgeIndex (v : Value) (g : Gr) (id : Int) (w : World) (hv : GrV 0 w.heap.size w v g) :
    Calls Try.prog 149 #[v, .int .i64 id] w fun e w' => e = .returned (.int .i64 (edgeIdx g id)) ∧ Below w.heap.size w w' := by
  obtain ⟨vs, es, rfl, hvs, ⟨A2, c2, rfl, hl2, hm2, hx2⟩⟩ := hv
  obtain ⟨A1, n1, c1, rfl⟩ := hvs.shape
  unfold maxLen at hm2
  have hb0 : Below w.heap.size w (w.alloc (.cells #[.slice A1 n1 c1, .slice A2 g.edges.length c2] 48)) := (Below.refl _ _).alloc (Nat.le_refl _) _
  have HX := Lib.hid hx2
  clear hx2 hvs
  go_enter Try.func149, Try.ntmps149
  go_wp2_with fail
  go_loop [5] (fun ii => ∃ i : Nat, i ≤ g.edges.length ∧ ii = .int .i64 i ∧ ∀ e ∈ g.edges.take i, ¬ e.1 = id) (fun ii => g.edges.length - (intOf ii).toNat)
  case atStart => exact ⟨0, Nat.zero_le _, rfl, by simp⟩
  case round =>
    obtain ⟨i, hi, rfl, hno⟩ := hrel
    have HN := Lib.hid hno
    clear hno
    by_cases hlt : i < g.edges.length
    · have hxi : g.edges[i]? = some g.edges[i] := List.getElem?_eq_getElem hlt
      generalize g.edges[i] = x at hxi
      obtain ⟨b, o, rfl, -, hb, hc⟩ := HX.out i x hxi
      have c0 := hc 0 _ rfl
      simp only [Nat.add_zero] at c0
      have HXI := Lib.hid hxi
      clear hc hxi
      by_cases hp : x.1 = id
      · have hq : (x.1 == id) = true := by simp [hp]
        have hres : edgeIdx g id = i := edgeIdx_some HXI.out hp HN.out
        have HR := Lib.hid hres
        clear hres hp
        go_wp2_with fail
        go_ret
        exact ⟨by rw [HR.out]; rfl, hb0⟩
      · have hq : (x.1 == id) = false := by simp [hp]
        have HP := Lib.hid hp
        clear hp
        go_wp2_with fail
        go_round
        case rel =>
          refine ⟨i + 1, by omega, by go_num, fun y hy => ?_⟩
          rw [take_snoc HXI.out] at hy
          rcases List.mem_append.1 hy with hy | hy
          · exact HN.out y hy
          · obtain rfl : y = x := by simpa using hy
            exact HP.out
        case measure => simp [intOf]; omega
    · obtain rfl : i = g.edges.length := by omega
      have hres : edgeIdx g id = -1 := edgeIdx_none (fun x hx => HN.out x (by rw [List.take_length]; exact hx))
      have HR := Lib.hid hres
      clear hres
      go_wp2_with fail
      go_ret
      exact ⟨by rw [HR.out]; rfl, hb0⟩





theorem getDS_of {xs : List Int} {i : Nat} {x : Int} (h : xs[i]? = some x) : xs.getD i 0 = x := by rw [List.getD_eq_getElem?_getD, h]; rfl

end Go.Proofs.Ytmlfkledhnlkeaa

/- A region that draws its order: loads come first under a condition S that is asked before its last operations alone (a store to a cell that the region loads). Over any program. -/
namespace Go.Proofs.Ytmlfkledhnlkeaa
set_option linter.unusedVariables false
set_option linter.unusedSimpArgs false
open Go.RowKit

section
variable {P : Program} {ops : Array Oper} {Q : Exit → Act → World → Prop} {md : Region.Mode} {S : World → Prop} {n : Nat}

/-- whatever order is picked; S holds behind each operation below n -/
def wpAnyF (P : Program) (md : Region.Mode) (ops : Array Oper) (Q : Exit → Act → World → Prop) (S : World → Prop) (n : Nat) : Nat → Array Bool → Act → World → Prop
  | 0, listed, a, w => Region.ready md ops listed = [] ∧ Q .normal a w
  | f + 1, listed, a, w => (Region.ready md ops listed = [] → Q .normal a w) ∧
    ∀ i ∈ Region.ready md ops listed, wpOp P ops Q i (fun a' w' => (i < n → S w') ∧ wpAnyF P md ops Q S n f (listed.setIfInBounds i true) a' w') a w
theorem F_any : ∀ (f : Nat) (listed : Array Bool) (a : Act) (w : World), wpAnyF P md ops Q S n f listed a w → wpAny P md ops Q f listed a w
  | 0, _, _, _, h => h
  | f + 1, _, _, _, h => ⟨h.1, fun i hi => wpOp_mono (fun _ _ h' => F_any f _ _ _ h'.2) (h.2 i hi)⟩
theorem F_first {i : Nat} {oi : Oper} {v : Value} (hi : ops[i]? = some oi) (hsel : ∀ (j : Nat) (o : Oper) cs b, ops[j]? = some o → o.op ≠ .select cs b) (hQ : ∀ c a w, Q (.panic c) (a.put oi.dst v) w → Q (.panic c) a w)
    (hs : Region.sinkB md ops n = true) (hc : Region.chainB md ops n = true) (hn : n < ops.size) (hin : i < n) : ∀ (f : Nat) (listed : Array Bool) (a : Act) (w : World), HeadInv md ops n listed →
      (∀ j oj, ops[j]? = some oj → j ≠ i → listed.getD j true = false → (∀ e ∈ oj.after, Region.binds md e = true → e.on ≠ i) → oi.apart ops oj = true) →
      i ∈ Region.ready md ops listed → YieldsIf P ops S oi v a → S w →
      wpAnyF P md ops Q S n f (listed.setIfInBounds i true) (a.put oi.dst v) w → wpAnyF P md ops Q S n (f + 1) listed a w := by
  intro f
  induction f with
  | zero =>
    intro listed a w inv _ hr hy hS H
    have hun := (mem_ready.1 hr).1
    refine ⟨fun h => (by rw [h] at hr; cases hr), fun j hj => ?_⟩
    by_cases hji : j = i
    · subst hji; exact hy.wpOp hi hS ⟨fun _ => hS, H⟩
    · have := ready_mono hj hji
      rw [H.1] at this
      cases this
  | succ f ih =>
    intro listed a w inv hfree hr hy hS H
    have hun := (mem_ready.1 hr).1
    refine ⟨fun h => (by rw [h] at hr; cases hr), fun j hj => ?_⟩
    have hjn : j < n := by
      rcases Nat.lt_or_ge j n with h | h
      · exact h
      · exact absurd hj (tail_waits hs hc hn inv _ i rfl hin hun j h)
    by_cases hji : j = i
    · subst hji; exact hy.wpOp hi hS ⟨fun _ => hS, H⟩
    · have h1 := H.2 j (ready_mono hj hji)
      obtain ⟨hjun, oj, hoj, hall⟩ := mem_ready.1 hj
      have hnot : ∀ e ∈ oj.after, Region.binds md e = true → e.on ≠ i := fun e he hb heq => by
        have h1 := hall e he hb
        rw [heq, getD_both hun] at h1
        cases h1
      have h2 := wpOp_putIf hoj (hfree j oj hoj hji hjun hnot) (fun cs b => hsel i oi cs b hi) (fun cs b => hsel j oj cs b hoj) hQ hy h1
      have hfree' : ∀ k ok, ops[k]? = some ok → k ≠ i → (listed.setIfInBounds j true).getD k true = false → (∀ e ∈ ok.after, Region.binds md e = true → e.on ≠ i) → oi.apart ops ok = true := fun k ok hk hki hun hno => by
        refine hfree k ok hk hki ?_ hno
        by_cases hjk : j = k
        · subst hjk; exact hjun
        · rw [getD_set_ne true hjk] at hun; exact hun
      refine wpOp_mono (fun a' w' h3 => ⟨h3.2.1, ih (listed.setIfInBounds j true) a' w' (inv.set hj hjn) hfree' (ready_mono hr (Ne.symm hji)) h3.1 (h3.2.1 hjn) ?_⟩) h2
      rw [Array.setIfInBounds_comm _ _ hji]
      exact h3.2.2
theorem F_take {i : Nat} {oi : Oper} {v : Value} {f : Nat} {listed : Array Bool} {a : Act} {w : World} (hi : ops[i]? = some oi) (hB : (Region.noSelect ops && Region.sinkB md ops n && Region.chainB md ops n && decide (n < ops.size) && decide (i < n)) = true)
    (hf : Region.free md ops listed i = true) (hr : (Region.ready md ops listed).contains i = true) (hQ : ∀ c a w, Q (.panic c) (a.put oi.dst v) w → Q (.panic c) a w) (inv : HeadInv md ops n listed) (hy : YieldsIf P ops S oi v a) (hS : S w)
    (h : HeadInv md ops n (listed.setIfInBounds i true) → wpAnyF P md ops Q S n f (listed.setIfInBounds i true) (a.put oi.dst v) w) : wpAnyF P md ops Q S n (f + 1) listed a w := by
  simp only [Bool.and_eq_true, decide_eq_true_eq] at hB
  obtain ⟨⟨⟨⟨h1, h2⟩, h3⟩, h4⟩, h5⟩ := hB
  have hr' : i ∈ Region.ready md ops listed := by simpa using hr
  exact F_first hi (Region.noSelect_spec h1) hQ h2 h3 h4 h5 f listed a w inv (Region.free_spec hi hf) hr' hy hS (h (inv.set hr' h5))
/-- the only one that may come up: an operation below n -/
theorem F_one {i : Nat} {oi : Oper} {f : Nat} {listed : Array Bool} {a : Act} {w : World} (hr : Region.ready md ops listed = [i]) (hi : ops[i]? = some oi) (hg : oi.guard = none) (hin : i < n) (inv : HeadInv md ops n listed)
    (h : ∀ K : Act → World → Prop, Shut (∀ a' w', S w' → (S w' → HeadInv md ops n (listed.setIfInBounds i true) → wpAnyF P md ops Q S n f (listed.setIfInBounds i true) a' w') → K a' w') → Oper.wp P oi a w K Q) : wpAnyF P md ops Q S n (f + 1) listed a w := by
  refine ⟨fun h0 => (by rw [hr] at h0; cases h0), fun j hj => ?_⟩
  have hj2 := hj
  rw [hr] at hj2
  obtain rfl : j = i := by simpa using hj2
  have hw : Region.wanted oi (yielded ops a.tmps) = true := by simp [Region.wanted, hg]
  unfold wpOp
  simp only [hi, hw, if_true]
  exact .inl (h _ (fun a' w' hS hF => ⟨fun _ => hS, hF hS (inv.set hj hin)⟩))
/-- the last one -/
theorem F_last {i : Nat} {oi : Oper} {f : Nat} {listed : Array Bool} {a : Act} {w : World} (hr : Region.ready md ops listed = [i]) (hi : ops[i]? = some oi) (hg : oi.guard = none) (hin : n ≤ i) (he : Region.ready md ops (listed.setIfInBounds i true) = [])
    (h : ∀ K : Act → World → Prop, (∀ a' w', Q .normal a' w' → K a' w') → Oper.wp P oi a w K Q) : wpAnyF P md ops Q S n (f + 1) listed a w := by
  refine ⟨fun h0 => (by rw [hr] at h0; cases h0), fun j hj => ?_⟩
  rw [hr] at hj
  obtain rfl : j = i := by simpa using hj
  have hw : Region.wanted oi (yielded ops a.tmps) = true := by simp [Region.wanted, hg]
  unfold wpOp
  simp only [hi, hw, if_true]
  refine .inl (h _ (fun a' w' hq => ⟨fun h => absurd h (by omega), ?_⟩))
  cases f with
  | zero => exact ⟨he, hq⟩
  | succ f => exact ⟨fun _ => hq, by rw [he]; simp⟩
/-- two that may come up -/
theorem F_two {i j : Nat} {oi oj : Oper} {f : Nat} {listed : Array Bool} {a : Act} {w : World} (hr : Region.ready md ops listed = [i, j]) (hi : ops[i]? = some oi) (hj : ops[j]? = some oj) (hgi : oi.guard = none) (hgj : oj.guard = none) (hin : i < n ∧ j < n) (inv : HeadInv md ops n listed)
    (h1 : ∀ K : Act → World → Prop, Shut (∀ a' w', S w' → (S w' → HeadInv md ops n (listed.setIfInBounds i true) → wpAnyF P md ops Q S n f (listed.setIfInBounds i true) a' w') → K a' w') → Oper.wp P oi a w K Q)
    (h2 : ∀ K : Act → World → Prop, Shut (∀ a' w', S w' → (S w' → HeadInv md ops n (listed.setIfInBounds j true) → wpAnyF P md ops Q S n f (listed.setIfInBounds j true) a' w') → K a' w') → Oper.wp P oj a w K Q) : wpAnyF P md ops Q S n (f + 1) listed a w := by
  refine ⟨fun h0 => (by rw [hr] at h0; cases h0), fun k hk => ?_⟩
  have hk2 := hk
  rw [hr] at hk2
  simp only [List.mem_cons, List.not_mem_nil, or_false] at hk2
  rcases hk2 with rfl | rfl
  · have hw : Region.wanted oi (yielded ops a.tmps) = true := by simp [Region.wanted, hgi]
    unfold wpOp
    simp only [hi, hw, if_true]
    exact .inl (h1 _ (fun a' w' hS hF => ⟨fun _ => hS, hF hS (inv.set hk hin.1)⟩))
  · have hw : Region.wanted oj (yielded ops a.tmps) = true := by simp [Region.wanted, hgj]
    unfold wpOp
    simp only [hj, hw, if_true]
    exact .inl (h2 _ (fun a' w' hS hF => ⟨fun _ => hS, hF hS (inv.set hk hin.2)⟩))
/-- one of the chain at the end, not the last -/
theorem F_tail {i : Nat} {oi : Oper} {f : Nat} {listed : Array Bool} {a : Act} {w : World} (hr : Region.ready md ops listed = [i]) (hi : ops[i]? = some oi) (hg : oi.guard = none) (hin : n ≤ i)
    (h : ∀ K : Act → World → Prop, Shut (∀ a' w', wpAnyF P md ops Q S n f (listed.setIfInBounds i true) a' w' → K a' w') → Oper.wp P oi a w K Q) : wpAnyF P md ops Q S n (f + 1) listed a w := by
  refine ⟨fun h0 => (by rw [hr] at h0; cases h0), fun j hj => ?_⟩
  rw [hr] at hj
  obtain rfl : j = i := by simpa using hj
  have hw : Region.wanted oi (yielded ops a.tmps) = true := by simp [Region.wanted, hg]
  unfold wpOp
  simp only [hi, hw, if_true]
  exact .inl (h _ (fun a' w' hF => ⟨fun hlt => absurd hlt (by omega), hF⟩))
theorem F_start {id : Nat} {a : Act} {w : World} (n : Nat) (S : World → Prop) (hm : P.follows .mixedOrders = true) (hS : S w.drew)
    (h : S w.drew → HeadInv .any ops n (Array.replicate ops.size false) → wpAnyF P .any ops Q S n ops.size (Array.replicate ops.size false) a w.drew) : (Code.region id ops true).wp P Q a w :=
  wp_region_any hm (F_any _ _ _ _ (h hS ⟨by simp, fun j oj _ hl => (by rw [getD_replicate_false] at hl; cases hl), fun t _ ht => getD_in (by simpa using ht) (getD_replicate_false _ _)⟩))

/-- append(s, x): as an operation by itself; the one element lies in block H -/
theorem op_append1 {w : World} {α : Type} (E : α → List Value) {o : Oper} {a : Act} {K : Act → World → Prop} {t e : TypeId} {z : Value} {k bytes : Nat} (el : ElemOk P t e z k bytes) (hgd : o.guard = none) (s y : Operand)
    (ho : o.op = .call { callee := .builtin .append, args := #[s, y], argTypes := #[t, t] })
    (base : Nat) (v : Value) (xs : List α) (x : α) (c H : Nat) (hs : a.eval s = v) (hown : w.ownsRow base e k v xs.length (xs.flatMap E)) (hy : a.eval y = .slice (some ⟨H, 0, none⟩) 1 c)
    (hH : w.heap[H]? = some (.cells (E x).toArray e (0, 0))) (hE : (E x).length = k) (h1 : ∀ u ∈ E x, u.oneCell' = true) (hbytes : (xs.length + 1) * bytes ≤ 140737488355328) (hb0 : 0 < bytes) (hbase : base ≤ w.heap.size)
    (h : ∀ g cap w', w'.ownsRow base e k (.slice (some ⟨g, 0, none⟩) (xs.length + 1) cap) (xs ++ [x]).length ((xs ++ [x]).flatMap E) → w.grownBy w' v.ownBlock → (v.ownBlock = some g ∨ w.heap.size ≤ g) → g < w'.heap.size →
      K (a.put o.dst (.slice (some ⟨g, 0, none⟩) (xs.length + 1) cap)) w') : Oper.wp P o a w K Q := by
  have h2 := step_append1 (ops := #[]) (EE := True) (Q := Q) (K := K) E el hgd s y ho base v xs x c H hs hown hy hH hE h1 hbytes hb0 hbase h
  have hw : Region.wanted o (yielded #[] a.tmps) = true := by simp [Region.wanted, hgd]
  rwa [if_pos hw] at h2
/-- the same at the head of a list of operations -/
theorem wpList_append2 {w : World} {α : Type} (E : α → List Value) {rest : List Oper} {o : Oper} {a : Act} {t e : TypeId} {z : Value} {k bytes : Nat} (el : ElemOk P t e z k bytes) (hgd : o.guard = none) (s y : Operand)
    (ho : o.op = .call { callee := .builtin .append, args := #[s, y], argTypes := #[t, t] })
    (base : Nat) (v : Value) (xs : List α) (x : α) (c H : Nat) (hs : a.eval s = v) (hown : w.ownsRow base e k v xs.length (xs.flatMap E)) (hy : a.eval y = .slice (some ⟨H, 0, none⟩) 1 c)
    (hH : w.heap[H]? = some (.cells (E x).toArray e (0, 0))) (hE : (E x).length = k) (h1 : ∀ u ∈ E x, u.oneCell' = true) (hbytes : (xs.length + 1) * bytes ≤ 140737488355328) (hb0 : 0 < bytes) (hbase : base ≤ w.heap.size)
    (h : ∀ g cap w', w'.ownsRow base e k (.slice (some ⟨g, 0, none⟩) (xs.length + 1) cap) (xs ++ [x]).length ((xs ++ [x]).flatMap E) → w.grownBy w' v.ownBlock → (v.ownBlock = some g ∨ w.heap.size ≤ g) → g < w'.heap.size →
      wpList P ops Q rest (a.put o.dst (.slice (some ⟨g, 0, none⟩) (xs.length + 1) cap)) w') : wpList P ops Q (o :: rest) a w :=
  wpList_plain hgd fun _ hK => op_append1 E el hgd s y ho base v xs x c H hs hown hy hH hE h1 hbytes hb0 hbase fun g cap w' h2 h3 h4 h5 => hK _ _ (h g cap w' h2 h3 h4 h5)
end
end Go.Proofs.Ytmlfkledhnlkeaa

