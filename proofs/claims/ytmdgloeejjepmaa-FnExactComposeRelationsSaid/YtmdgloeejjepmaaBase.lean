/- Words on memory that all walks of this seat use; nothing of the program. -/
import Derived.Test.YtmdgloeejjepmaaRows
import Derived.WalkKit
import Derived.ProofKit
import Derived.OpenShut
import Derived.Deep.QuietTactic
import Derived.BigQuiet
import Derived.Lib.Hide
import Derived.Maps.AppendAt
import Derived.Outline
import Derived.Deep.DeepMust
namespace Go.Proofs.Ytmdgloeejjepmaa
set_option linter.unusedVariables false
set_option linter.unusedSimpArgs false
open Go.ChangeShapes Go.WideShapes Go.ChangeAt Go.RowKit

/-! ### 'ext w u': a world in which all blocks of w are as they were -/
def ext (w u : World) : World := { u with heap := w.heap ++ u.heap.extract w.heap.size u.heap.size, os := w.os, tape := w.tape, output := w.output }

theorem ext_below (w u : World) : Below w.heap.size w (ext w u) :=
  ⟨rfl, rfl, rfl, by simp [ext], fun k hk => by simp [ext, Array.getElem?_append, hk]⟩
theorem ext_of {w w' : World} (h : Below w.heap.size w w') : ∃ u, w' = ext w u := by
  refine ⟨w', ?_⟩
  obtain ⟨h1, h2, h3, h4, h5⟩ := h
  have hh : w.heap ++ w'.heap.extract w.heap.size w'.heap.size = w'.heap := by
    apply Array.ext_getElem?
    intro i
    rw [Array.getElem?_append]
    split
    · rename_i hi
      exact (h5 i hi).symm
    · rw [Array.getElem?_extract]
      split
      · congr 1; omega
      · rw [Array.getElem?_eq_none]; omega
  cases w'
  simp only [ext] at *
  simp_all
theorem ext_cell {w u : World} {b o : Nat} (h : b < w.heap.size) : (ext w u).cell? ⟨b, o, none⟩ = w.cell? ⟨b, o, none⟩ := (ext_below w u).cell (p := ⟨b, o, none⟩) h
theorem ext_frozen {w u : World} {b o : Nat} (h : b < w.heap.size) : (ext w u).frozen? ⟨b, o, none⟩ = w.frozen? ⟨b, o, none⟩ := (ext_below w u).frozen (p := ⟨b, o, none⟩) h
theorem ext_size (w u : World) : w.heap.size ≤ (ext w u).heap.size := (ext_below w u).size
theorem ext_lt {w u : World} {b : Nat} (h : b < w.heap.size) : (b < (ext w u).heap.size) = True := by
  have := ext_size w u
  simp; omega
theorem ext_lt1 {w u : World} {b : Nat} (h : b < w.heap.size) : (b < (ext w u).heap.size + 1) = True := by
  have := ext_size w u
  simp; omega
theorem ext_lt2 {w u : World} {b : Nat} (h : b < w.heap.size) : (b < (ext w u).heap.size + 1 + 1) = True := by
  have := ext_size w u
  simp; omega
theorem ext_lt3 {w u : World} {b : Nat} (h : b < w.heap.size) : (b < (ext w u).heap.size + 1 + 1 + 1) = True := by
  have := ext_size w u
  simp; omega
theorem ltn2 (n : Nat) : (n < n + 1 + 1) = True := eq_true (by omega)
theorem ltn3 (n : Nat) : (n < n + 1 + 1 + 1) = True := eq_true (by omega)
theorem ltn13 (n : Nat) : (n + 1 < n + 1 + 1 + 1) = True := eq_true (by omega)
theorem lts1 {b n : Nat} (h : b < n) : (b < n + 1) = True := eq_true (by omega)
theorem lts2 {b n : Nat} (h : b < n) : (b < n + 1 + 1) = True := eq_true (by omega)
theorem lts3 {b n : Nat} (h : b < n) : (b < n + 1 + 1 + 1) = True := eq_true (by omega)
theorem below_trans {a b c : World} (h : Below a.heap.size a b) (k : Below b.heap.size b c) : Below a.heap.size a c := h.trans (k.mono h.size)
theorem ext_ext (w u v : World) : ∃ x, ext (ext w u) v = ext w x := ext_of (below_trans (ext_below w u) (ext_below _ v))
theorem ext_self (w : World) : w = ext w w := by
  obtain ⟨u, hu⟩ := ext_of (Below.refl w.heap.size w)
  have h : ext w w = w := by
    cases w
    simp [ext]
  exact h.symm
theorem below_drewN {B : Nat} {a w : World} (h : Below B a w) (n : Nat) : Below B a (w.drewN n) := ⟨h.os, h.tape, h.output, h.size, h.block⟩
theorem below_ext {B : Nat} {a w : World} (h : Below B a w) (hB : B ≤ w.heap.size) (u : World) : Below B a (ext w u) := h.trans ((ext_below w u).mono hB)

theorem Calls.ext_of {P : Program} {f : FuncId} {args : Array Value} {w u : World} {v : Value}
    (h : Calls P f args (ext w u) fun e w' => e = .returned v ∧ Below (ext w u).heap.size (ext w u) w') : Calls P f args (ext w u) fun e w'' => e = .returned v ∧ ∃ x, w'' = ext w x :=
  h.mono fun _ _ ⟨he, hb⟩ => ⟨he, Go.Proofs.Ytmdgloeejjepmaa.ext_of (below_trans (ext_below w u) hb)⟩

theorem wp_region_ext_lit {P : Program} {id : Nat} {Q : Exit → Act → World → Prop} {a : Act} {w : World} {l : List Oper} (hm : P.follows .mixedOrders = true) (hB : Region.lexB .any l.toArray = true)
    (h : wpQuiet P l.toArray (fun w' => ∃ u, w' = ext w u) (fun a' => ∀ w', (∃ u, w' = ext w u) → Q .normal a' w') l a) : (Code.region id l.toArray true).wp P Q a w :=
  wp_region_quiet (C := fun w' => ∃ u, w' = ext w u) hm hB (Go.Proofs.Ytmdgloeejjepmaa.ext_of ⟨rfl, rfl, rfl, Nat.le_refl _, fun _ _ => rfl⟩) (by simpa using h)

/-! ### Only the blocks from lo to hi have turned -/
structure Only (lo hi : Nat) (w w' : World) : Prop where
  os : w'.os = w.os
  tape : w'.tape = w.tape
  output : w'.output = w.output
  size : w.heap.size ≤ w'.heap.size
  block : ∀ n, n < w.heap.size → (n < lo ∨ hi ≤ n) → w'.heap[n]? = w.heap[n]?

theorem Only.of_below {w w' : World} (h : Below w.heap.size w w') (lo hi : Nat) : Only lo hi w w' := ⟨h.os, h.tape, h.output, h.size, fun n hn _ => h.block n hn⟩
theorem Only.refl (lo hi : Nat) (w : World) : Only lo hi w w := ⟨rfl, rfl, rfl, Nat.le_refl _, fun _ _ _ => rfl⟩
theorem Only.trans {lo hi : Nat} {a b c : World} (h : Only lo hi a b) (k : Only lo hi b c) : Only lo hi a c :=
  ⟨k.os.trans h.os, k.tape.trans h.tape, k.output.trans h.output, Nat.le_trans h.size k.size, fun n hn ho => (k.block n (Nat.lt_of_lt_of_le hn h.size) ho).trans (h.block n hn ho)⟩
theorem Only.mono {lo hi lo' hi' : Nat} {a b : World} (h : Only lo hi a b) (h1 : lo' ≤ lo) (h2 : hi ≤ hi') : Only lo' hi' a b :=
  ⟨h.os, h.tape, h.output, h.size, fun n hn ho => h.block n hn (by omega)⟩
theorem Only.below {lo hi : Nat} {a b : World} (h : Only lo hi a b) {B : Nat} (hB : B ≤ lo) (hs : B ≤ a.heap.size) : Below B a b :=
  ⟨h.os, h.tape, h.output, h.size, fun n hn => h.block n (by omega) (.inl (by omega))⟩
theorem Only.drew {lo hi : Nat} {a b : World} (h : Only lo hi a b) : Only lo hi a b.drew := ⟨h.os, h.tape, h.output, h.size, h.block⟩
theorem Only.drewN {lo hi : Nat} {a b : World} (h : Only lo hi a b) (n : Nat) : Only lo hi a (b.drewN n) := ⟨h.os, h.tape, h.output, h.size, h.block⟩
theorem Only.alloc {lo hi : Nat} {a b : World} (h : Only lo hi a b) (o : Obj) : Only lo hi a (b.alloc o) :=
  h.trans ⟨rfl, rfl, rfl, by simp, fun n hn _ => Below.heap_alloc _ _ _ hn⟩
theorem Only.setCell {lo hi : Nat} {a b : World} (h : Only lo hi a b) {p : Addr} (h1 : lo ≤ p.block ∧ p.block < hi ∨ a.heap.size ≤ p.block) (u : Value) : Only lo hi a (b.setCell p u) :=
  ⟨h.os, h.tape, h.output, by simpa [World.setCell] using h.size, fun n hn ho => (Below.heap_setCell _ _ _ _ (by omega)).trans (h.block n hn ho)⟩
theorem Only.cell {lo hi : Nat} {w w' : World} (h : Only lo hi w w') {p : Addr} (hp : p.block < w.heap.size) (ho : p.block < lo ∨ hi ≤ p.block) : w'.cell? p = w.cell? p := World.cell?_of_block (w := w) (h.block p.block hp ho)

/-! ### A slice that reads as a list: each element is k cells, 'E x'; its block lies from lo to hi -/
def SlI {α : Type} (lo hi : Nat) (w : World) (E : α → List Value) (k : Nat) (v : Value) (xs : List α) : Prop :=
  ∃ A c, v = .slice A xs.length c ∧ xs.length ≤ c ∧ c ≤ maxLen ∧
    ∀ i x, xs[i]? = some x → ∃ b o, A = some ⟨b, o, none⟩ ∧ lo ≤ b ∧ b < hi ∧ ∀ j u, (E x)[j]? = some u → w.cell? ⟨b, o + i * k + j, none⟩ = some u
abbrev SlE {α : Type} (w : World) (E : α → List Value) (k : Nat) (v : Value) (xs : List α) : Prop := SlI 0 w.heap.size w E k v xs

section
variable {α : Type} {lo hi : Nat} {w w' : World} {E : α → List Value} {k : Nat} {v : Value} {xs : List α}
theorem SlI.keep_ (h : SlI lo hi w E k v xs) (hb : ∀ b o, lo ≤ b → b < hi → w'.cell? ⟨b, o, none⟩ = w.cell? ⟨b, o, none⟩) : SlI lo hi w' E k v xs := by
  obtain ⟨A, c, hv, hl, hm, hx⟩ := h
  refine ⟨A, c, hv, hl, hm, fun i x hi => ?_⟩
  obtain ⟨b, o, hA, h1, h2, hc⟩ := hx i x hi
  exact ⟨b, o, hA, h1, h2, fun j u hu => (hb _ _ h1 h2).trans (hc j u hu)⟩
theorem SlI.below (h : SlI lo hi w E k v xs) {B : Nat} (hb : Below B w w') (hB : hi ≤ B) : SlI lo hi w' E k v xs :=
  h.keep_ fun b o _ h2 => hb.cell (p := ⟨b, o, none⟩) (show b < B by omega)
theorem SlI.only (h : SlI lo hi w E k v xs) {l r : Nat} (hb : Only l r w w') (hh : hi ≤ w.heap.size) (ho : hi ≤ l ∨ r ≤ lo) : SlI lo hi w' E k v xs :=
  h.keep_ fun b o h1 h2 => hb.cell (p := ⟨b, o, none⟩) (show b < _ by omega) (show b < l ∨ r ≤ b by omega)
theorem SlI.mono (h : SlI lo hi w E k v xs) {lo' hi' : Nat} (h1 : lo' ≤ lo) (h2 : hi ≤ hi') : SlI lo' hi' w E k v xs := by
  obtain ⟨A, c, hv, hl, hm, hx⟩ := h
  refine ⟨A, c, hv, hl, hm, fun i x hi => ?_⟩
  obtain ⟨b, o, hA, g1, g2, hc⟩ := hx i x hi
  exact ⟨b, o, hA, by omega, by omega, hc⟩
theorem SlI.all (h : SlI lo hi w E k v xs) (hh : hi ≤ w.heap.size) : SlE w E k v xs := h.mono (Nat.zero_le _) hh
theorem SlE.keep (h : SlE w E k v xs) (hb : Below w.heap.size w w') : SlE w' E k v xs := (SlI.below h hb (Nat.le_refl _)).mono (Nat.le_refl _) hb.size
theorem SlE.ext (h : SlE w E k v xs) (u : World) : SlE (ext w u) E k v xs := h.keep (ext_below w u)
theorem SlI.shape (h : SlI lo hi w E k v xs) : ∃ A n c, v = .slice A n c := by
  obtain ⟨A, c, rfl, _⟩ := h
  exact ⟨_, _, _, rfl⟩
theorem SlI.nil (lo hi : Nat) (w : World) (E : α → List Value) (k : Nat) : SlI lo hi w E k (.slice none 0 0) [] := ⟨none, 0, rfl, Nat.le_refl _, by unfold maxLen; omega, by simp⟩
end

/-! ### A slice that the call itself made: a row of its own -/
def Own {α : Type} (lo hi : Nat) (w : World) (e : TypeId) (E : α → List Value) (k : Nat) (v : Value) (xs : List α) : Prop :=
  w.ownsRow lo e k v xs.length (xs.flatMap E) ∧ ∀ g, v.ownBlock = some g → g < hi

theorem flat_at {α : Type} {E : α → List Value} {k : Nat} (hE : ∀ x, (E x).length = k) : ∀ {xs : List α} {i : Nat} {x : α}, xs[i]? = some x → ∀ j u, (E x)[j]? = some u → (xs.flatMap E)[i * k + j]? = some u := by
  intro xs
  induction xs with
  | nil => intro i x h; simp at h
  | cons y ys ih =>
    intro i x h j u hu
    have hj : j < k := by have := (List.getElem?_eq_some_iff.1 hu).1; rw [hE] at this; exact this
    cases i with
    | zero =>
      have hxy : y = x := by simpa using h
      subst hxy
      simp only [List.flatMap_cons, Nat.zero_mul, Nat.zero_add]
      rw [List.getElem?_append_left (by rw [hE]; exact hj)]
      exact hu
    | succ i =>
      simp only [List.flatMap_cons]
      rw [List.getElem?_append_right (by rw [hE, Nat.succ_mul]; omega), hE]
      have := ih (i := i) (x := x) (by simpa using h) j u hu
      rw [← this]
      congr 1
      rw [Nat.succ_mul]; omega

section
variable {α : Type} {lo hi : Nat} {w w' : World} {e : TypeId} {E : α → List Value} {k : Nat} {v : Value} {xs : List α}
theorem Own.lt (h : Own lo hi w e E k v xs) : ∀ g, v.ownBlock = some g → lo ≤ g ∧ g < hi ∧ g < w.heap.size := fun g hg => ⟨(h.1.lt g hg).1, h.2 g hg, (h.1.lt g hg).2⟩
theorem Own.sl (h : Own lo hi w e E k v xs) (hE : ∀ x, (E x).length = k) : SlI lo hi w E k v xs := by
  obtain ⟨hr, hlt⟩ := h
  have hr' := hr
  obtain ⟨hl, hs⟩ := hr'
  rcases hs with ⟨rfl, hn⟩ | ⟨g, cap, cur, rfl, hg, hh, hnc, hcm, hsz, htk⟩
  · have : xs = [] := List.eq_nil_of_length_eq_zero hn
    subst this
    exact SlI.nil _ _ _ _ _
  · refine ⟨_, cap, rfl, hnc, hcm, fun i x hi => ⟨g, 0, rfl, hg, hlt g rfl, fun j u hu => ?_⟩⟩
    have hf := flat_at hE hi j u hu
    have hj := (List.getElem?_eq_some_iff.1 hf).1
    rw [hl] at hj
    rw [Nat.zero_add]
    exact (World.ownsRow.cellAt hr _ hj).trans hf
theorem Own.kept (h : Own lo hi w e E k v xs) {row : Option Nat} (hg : w.grownBy w' row) (hne : v.ownBlock = none ∨ v.ownBlock ≠ row) : Own lo hi w' e E k v xs := ⟨h.1.kept hg hne, h.2⟩
theorem Own.below (h : Own lo hi w e E k v xs) {B : Nat} (hb : Below B w w') (hB : hi ≤ B) : Own lo hi w' e E k v xs := by
  obtain ⟨⟨hl, hs⟩, hlt⟩ := h
  refine ⟨⟨hl, ?_⟩, hlt⟩
  rcases hs with hs | ⟨g, cap, cur, rfl, hg, hh, r⟩
  · exact .inl hs
  · exact .inr ⟨g, cap, cur, rfl, hg, (hb.block g (by have := hlt g rfl; omega)).trans hh, r⟩
theorem Own.only (h : Own lo hi w e E k v xs) {l r : Nat} (hb : Only l r w w') (ho : hi ≤ l ∨ r ≤ lo) : Own lo hi w' e E k v xs := by
  have hx := h.lt
  obtain ⟨⟨hl, hs⟩, hlt⟩ := h
  refine ⟨⟨hl, ?_⟩, hlt⟩
  rcases hs with hs | ⟨g, cap, cur, rfl, hg, hh, rr⟩
  · exact .inl hs
  · have := hx g rfl
    exact .inr ⟨g, cap, cur, rfl, hg, (hb.block g this.2.2 (by omega)).trans hh, rr⟩
theorem Own.mono (h : Own lo hi w e E k v xs) {lo' hi' : Nat} (h1 : lo' ≤ lo) (h2 : hi ≤ hi') : Own lo' hi' w e E k v xs := by
  obtain ⟨⟨hl, hs⟩, hlt⟩ := h
  refine ⟨⟨hl, ?_⟩, fun g hg => Nat.lt_of_lt_of_le (hlt g hg) h2⟩
  rcases hs with hs | ⟨g, cap, cur, rfl, hg, hh, r⟩
  · exact .inl hs
  · exact .inr ⟨g, cap, cur, rfl, by omega, hh, r⟩
theorem Own.of_row {n : Nat} {cs : List Value} (h : w.ownsRow lo e k v n cs) (hn : xs.length = n) (hc : xs.flatMap E = cs) : Own lo w.heap.size w e E k v xs := by
  subst hn hc
  exact ⟨h, fun g hg => (h.lt g hg).2⟩
theorem Own.shape (h : Own lo hi w e E k v xs) : ∃ A n c, v = .slice A n c := by
  obtain ⟨⟨_, hs⟩, _⟩ := h
  rcases hs with ⟨rfl, _⟩ | ⟨g, cap, cur, rfl, _⟩
  · exact ⟨_, _, _, rfl⟩
  · exact ⟨_, _, _, rfl⟩
theorem Own.nil (lo hi : Nat) (w : World) (e : TypeId) (E : α → List Value) (k : Nat) : Own lo hi w e E k (.slice none 0 0) [] := ⟨World.ownsRow_nil w lo e k, by intro g hg; cases hg⟩
end

/-! ### A block of the call's own that is known whole -/
def Blk (w : World) (g : Nat) (t : TypeId) (cs : Array Value) : Prop := w.heap[g]? = some (.cells cs t (0, 0))
section
variable {w w' : World} {g : Nat} {t : TypeId} {cs : Array Value}
theorem Blk.lt (h : Blk w g t cs) : g < w.heap.size := by
  rcases Nat.lt_or_ge g w.heap.size with hlt | hge
  · exact hlt
  · unfold Blk at h; rw [Array.getElem?_eq_none hge] at h; cases h
theorem Blk.cell (h : Blk w g t cs) (i : Nat) : w.cell? ⟨g, i, none⟩ = cs[i]? := cell_of_row w g i cs t (0, 0) h
theorem Blk.frozen (h : Blk w g t cs) (i : Nat) : w.frozen? ⟨g, i, none⟩ = false := by
  unfold Blk at h
  simp [World.frozen?, h]
theorem Blk.new (w : World) (t : TypeId) (cs : Array Value) (n : Nat) (hn : n = w.heap.size) : Blk (w.alloc (.cells cs t)) n t cs := by subst hn; exact heap_alloc_new w _
theorem Blk.drew (h : Blk w g t cs) : Blk w.drew g t cs := h
theorem Blk.drewN (h : Blk w g t cs) (n : Nat) : Blk (w.drewN n) g t cs := h
theorem Blk.alloc (h : Blk w g t cs) (o : Obj) : Blk (w.alloc o) g t cs := (Below.heap_alloc w o g h.lt).trans h
theorem Blk.set_ (h : Blk w g t cs) (i : Nat) (u : Value) : Blk (w.setCell ⟨g, i, none⟩ u) g t (cs.setIfInBounds i u) := by
  unfold Blk at h ⊢
  simp [World.setCell, Array.getElem?_modify, h]
theorem Blk.far (h : Blk w g t cs) {p : Addr} (hp : g ≠ p.block) (u : Value) : Blk (w.setCell p u) g t cs := (Below.heap_setCell w p u g hp).trans h
theorem Blk.below (h : Blk w g t cs) {B : Nat} (hb : Below B w w') (hg : g < B) : Blk w' g t cs := (hb.block g hg).trans h
theorem Blk.keep (h : Blk w g t cs) (hb : Below w.heap.size w w') : Blk w' g t cs := (hb.block g h.lt).trans h
theorem Blk.only (h : Blk w g t cs) {l r : Nat} (hb : Only l r w w') (ho : g < l ∨ r ≤ g) : Blk w' g t cs := (hb.block g h.lt ho).trans h
end

/-! ### The plain data -/
abbrev Pr := Int × Int
abbrev Ed := Int × Int × Int × Int
abbrev St := Int × Bool
abbrev Wk := Int × List St
def cI (x : Int) : List Value := [.int .i64 x]
def cB (x : Bool) : List Value := [.bool x]
def cV (x : Value) : List Value := [x]
def cPr (p : Pr) : List Value := [.int .i64 p.1, .int .i64 p.2]
def cEd (p : Ed) : List Value := [.int .i64 p.1, .int .i64 p.2.1, .int .i64 p.2.2.1, .int .i64 p.2.2.2]
def cSt (p : St) : List Value := [.int .i64 p.1, .bool p.2]
theorem cI_len (x : Int) : (cI x).length = 1 := rfl
theorem cB_len (x : Bool) : (cB x).length = 1 := rfl
theorem cV_len (x : Value) : (cV x).length = 1 := rfl
theorem cPr_len (x : Pr) : (cPr x).length = 2 := rfl
theorem cEd_len (x : Ed) : (cEd x).length = 4 := rfl
theorem cSt_len (x : St) : (cSt x).length = 2 := rfl

theorem cI_one (x : Int) : ∀ u ∈ cI x, u.oneCell' = true := by intro u hu; simp only [cI, List.mem_cons, List.not_mem_nil, or_false] at hu; subst hu; rfl
theorem cB_one (x : Bool) : ∀ u ∈ cB x, u.oneCell' = true := by intro u hu; simp only [cB, List.mem_cons, List.not_mem_nil, or_false] at hu; subst hu; rfl
theorem cPr_one (x : Pr) : ∀ u ∈ cPr x, u.oneCell' = true := by intro u hu; simp only [cPr, List.mem_cons, List.not_mem_nil, or_false] at hu; rcases hu with rfl | rfl <;> rfl
theorem cSt_one (x : St) : ∀ u ∈ cSt x, u.oneCell' = true := by intro u hu; simp only [cSt, List.mem_cons, List.not_mem_nil, or_false] at hu; rcases hu with rfl | rfl <;> rfl
theorem cEd_one (x : Ed) : ∀ u ∈ cEd x, u.oneCell' = true := by intro u hu; simp only [cEd, List.mem_cons, List.not_mem_nil, or_false] at hu; rcases hu with rfl | rfl | rfl | rfl <;> rfl

/-! ### Graphs, automata, walks -/
structure Gr where
  vals : List Int
  edges : List Ed
structure Au where
  start : Int
  accept : List Bool
  next : List (List Int)
def GrV (lo hi : Nat) (w : World) (v : Value) (g : Gr) : Prop := ∃ vs es, v = .agg #[vs, es] ∧ SlI lo hi w cI 1 vs g.vals ∧ SlI lo hi w cEd 4 es g.edges
/-- a slice of slices of numbers -/
def SSV (lo hi : Nat) (w : World) (v : Value) (xss : List (List Int)) : Prop :=
  ∃ vs : List Value, SlI lo hi w cV 1 v vs ∧ vs.length = xss.length ∧ ∀ (i : Nat) (u : Value) (xs : List Int), vs[i]? = some u → xss[i]? = some xs → SlI lo hi w cI 1 u xs
def AuV (lo hi : Nat) (w : World) (v : Value) (a : Au) : Prop := ∃ ac nx, v = .agg #[.int .i64 a.start, ac, nx] ∧ SlI lo hi w cB 1 ac a.accept ∧ SSV lo hi w nx a.next
def WkV (lo hi : Nat) (w : World) (v : Value) (k : Wk) : Prop := ∃ ss, v = .agg #[.int .i64 k.1, ss] ∧ SlI lo hi w cSt 2 ss k.2

section
variable {lo hi : Nat} {w w' : World} {v : Value}
theorem GrV.below {g : Gr} (h : GrV lo hi w v g) {B : Nat} (hb : Below B w w') (hB : hi ≤ B) : GrV lo hi w' v g := by
  obtain ⟨vs, es, rfl, h1, h2⟩ := h
  exact ⟨vs, es, rfl, h1.below hb hB, h2.below hb hB⟩
theorem GrV.mono {g : Gr} (h : GrV lo hi w v g) {lo' hi' : Nat} (h1 : lo' ≤ lo) (h2 : hi ≤ hi') : GrV lo' hi' w v g := by
  obtain ⟨vs, es, rfl, g1, g2⟩ := h
  exact ⟨vs, es, rfl, g1.mono h1 h2, g2.mono h1 h2⟩
theorem GrV.all {g : Gr} (h : GrV lo hi w v g) (hh : hi ≤ w.heap.size) : GrV 0 w.heap.size w v g := h.mono (Nat.zero_le _) hh
theorem GrV.keep {g : Gr} (h : GrV 0 w.heap.size w v g) (hb : Below w.heap.size w w') : GrV 0 w'.heap.size w' v g := (h.below hb (Nat.le_refl _)).mono (Nat.le_refl _) hb.size
theorem GrV.only {g : Gr} (h : GrV lo hi w v g) {l r : Nat} (hb : Only l r w w') (hh : hi ≤ w.heap.size) (ho : hi ≤ l ∨ r ≤ lo) : GrV lo hi w' v g := by
  obtain ⟨vs, es, rfl, g1, g2⟩ := h
  exact ⟨vs, es, rfl, g1.only hb hh ho, g2.only hb hh ho⟩
theorem SSV.below {x : List (List Int)} (h : SSV lo hi w v x) {B : Nat} (hb : Below B w w') (hB : hi ≤ B) : SSV lo hi w' v x := by
  obtain ⟨vs, h1, h2, h3⟩ := h
  exact ⟨vs, h1.below hb hB, h2, fun i u xs hu hx => (h3 i u xs hu hx).below hb hB⟩
theorem SSV.shape {x : List (List Int)} (h : SSV lo hi w v x) : ∃ A n c, v = .slice A n c := by
  obtain ⟨vs, h1, _⟩ := h
  exact h1.shape
theorem AuV.shape {a : Au} (h : AuV lo hi w v a) : ∃ A1 n1 c1 A2 n2 c2, v = .agg #[.int .i64 a.start, .slice A1 n1 c1, .slice A2 n2 c2] := by
  obtain ⟨vs, es, rfl, h1, h2⟩ := h
  obtain ⟨A1, n1, c1, rfl⟩ := h1.shape
  obtain ⟨A2, n2, c2, rfl⟩ := h2.shape
  exact ⟨_, _, _, _, _, _, rfl⟩
theorem AuV.restart {A1 A2 : Option Addr} {n1 c1 n2 c2 : Nat} {a : Au} {s0 : Int} (h : AuV lo hi w (.agg #[.int .i64 s0, .slice A1 n1 c1, .slice A2 n2 c2]) a) (s : Int) : AuV lo hi w (.agg #[.int .i64 s, .slice A1 n1 c1, .slice A2 n2 c2]) ⟨s, a.accept, a.next⟩ := by
  obtain ⟨vs, es, hv, h1, h2⟩ := h
  injection hv with hv
  simp at hv
  obtain ⟨_, rfl, rfl⟩ := hv
  exact ⟨_, _, rfl, h1, h2⟩
theorem GrV.shape {g : Gr} (h : GrV lo hi w v g) : ∃ A1 n1 c1 A2 n2 c2, v = .agg #[.slice A1 n1 c1, .slice A2 n2 c2] := by
  obtain ⟨vs, es, rfl, h1, h2⟩ := h
  obtain ⟨A1, n1, c1, rfl⟩ := h1.shape
  obtain ⟨A2, n2, c2, rfl⟩ := h2.shape
  exact ⟨_, _, _, _, _, _, rfl⟩
theorem WkV.shape {k : Wk} (h : WkV lo hi w v k) : ∃ A1 n1 c1, v = .agg #[.int .i64 k.1, .slice A1 n1 c1] := by
  obtain ⟨vs, rfl, h1⟩ := h
  obtain ⟨A1, n1, c1, rfl⟩ := h1.shape
  exact ⟨_, _, _, rfl⟩
theorem SSV.mono {x : List (List Int)} (h : SSV lo hi w v x) {lo' hi' : Nat} (h1 : lo' ≤ lo) (h2 : hi ≤ hi') : SSV lo' hi' w v x := by
  obtain ⟨vs, g1, g2, g3⟩ := h
  exact ⟨vs, g1.mono h1 h2, g2, fun i u xs hu hx => (g3 i u xs hu hx).mono h1 h2⟩
theorem SSV.all {x : List (List Int)} (h : SSV lo hi w v x) (hh : hi ≤ w.heap.size) : SSV 0 w.heap.size w v x := h.mono (Nat.zero_le _) hh
theorem SSV.keep {x : List (List Int)} (h : SSV 0 w.heap.size w v x) (hb : Below w.heap.size w w') : SSV 0 w'.heap.size w' v x := (h.below hb (Nat.le_refl _)).mono (Nat.le_refl _) hb.size
theorem SSV.only {x : List (List Int)} (h : SSV lo hi w v x) {l r : Nat} (hb : Only l r w w') (hh : hi ≤ w.heap.size) (ho : hi ≤ l ∨ r ≤ lo) : SSV lo hi w' v x := by
  obtain ⟨vs, g1, g2, g3⟩ := h
  exact ⟨vs, g1.only hb hh ho, g2, fun i u xs hu hx => (g3 i u xs hu hx).only hb hh ho⟩
theorem AuV.below {a : Au} (h : AuV lo hi w v a) {B : Nat} (hb : Below B w w') (hB : hi ≤ B) : AuV lo hi w' v a := by
  obtain ⟨vs, es, rfl, h1, h2⟩ := h
  exact ⟨vs, es, rfl, h1.below hb hB, h2.below hb hB⟩
theorem AuV.mono {a : Au} (h : AuV lo hi w v a) {lo' hi' : Nat} (h1 : lo' ≤ lo) (h2 : hi ≤ hi') : AuV lo' hi' w v a := by
  obtain ⟨vs, es, rfl, g1, g2⟩ := h
  exact ⟨vs, es, rfl, g1.mono h1 h2, g2.mono h1 h2⟩
theorem AuV.all {a : Au} (h : AuV lo hi w v a) (hh : hi ≤ w.heap.size) : AuV 0 w.heap.size w v a := h.mono (Nat.zero_le _) hh
theorem AuV.keep {a : Au} (h : AuV 0 w.heap.size w v a) (hb : Below w.heap.size w w') : AuV 0 w'.heap.size w' v a := (h.below hb (Nat.le_refl _)).mono (Nat.le_refl _) hb.size
theorem AuV.only {a : Au} (h : AuV lo hi w v a) {l r : Nat} (hb : Only l r w w') (hh : hi ≤ w.heap.size) (ho : hi ≤ l ∨ r ≤ lo) : AuV lo hi w' v a := by
  obtain ⟨vs, es, rfl, g1, g2⟩ := h
  exact ⟨vs, es, rfl, g1.only hb hh ho, g2.only hb hh ho⟩
theorem WkV.below {a : Wk} (h : WkV lo hi w v a) {B : Nat} (hb : Below B w w') (hB : hi ≤ B) : WkV lo hi w' v a := by
  obtain ⟨vs, rfl, h1⟩ := h
  exact ⟨vs, rfl, h1.below hb hB⟩
theorem WkV.mono {a : Wk} (h : WkV lo hi w v a) {lo' hi' : Nat} (h1 : lo' ≤ lo) (h2 : hi ≤ hi') : WkV lo' hi' w v a := by
  obtain ⟨vs, rfl, g1⟩ := h
  exact ⟨vs, rfl, g1.mono h1 h2⟩
theorem WkV.all {a : Wk} (h : WkV lo hi w v a) (hh : hi ≤ w.heap.size) : WkV 0 w.heap.size w v a := h.mono (Nat.zero_le _) hh
theorem WkV.keep {a : Wk} (h : WkV 0 w.heap.size w v a) (hb : Below w.heap.size w w') : WkV 0 w'.heap.size w' v a := (h.below hb (Nat.le_refl _)).mono (Nat.le_refl _) hb.size
theorem WkV.only {a : Wk} (h : WkV lo hi w v a) {l r : Nat} (hb : Only l r w w') (hh : hi ≤ w.heap.size) (ho : hi ≤ l ∨ r ≤ lo) : WkV lo hi w' v a := by
  obtain ⟨vs, rfl, g1⟩ := h
  exact ⟨vs, rfl, g1.only hb hh ho⟩
end

theorem ret_int {k : IntKind} {a b : Int} (h : a = b) : Ending.returned (.int k a) = .returned (.int k b) := by rw [h]
theorem take_snoc {α : Type} {xs : List α} {k : Nat} {x : α} (hx : xs[k]? = some x) : xs.take (k + 1) = xs.take k ++ [x] := by
  rw [List.take_add_one, hx]; rfl
theorem take_eq_snoc {α : Type} {xs ys : List α} {k : Nat} {x y : α} (hx : xs[k]? = some x) (hy : ys[k]? = some y) : (xs.take (k + 1) = ys.take (k + 1)) ↔ (xs.take k = ys.take k ∧ x = y) := by
  rw [take_snoc hx, take_snoc hy]
  have hlx : (xs.take k).length = (ys.take k).length := by
    have h1 := (List.getElem?_eq_some_iff.1 hx).1
    have h2 := (List.getElem?_eq_some_iff.1 hy).1
    simp; omega
  constructor
  · intro h
    have := List.append_inj h hlx
    exact ⟨this.1, by simpa using this.2⟩
  · rintro ⟨h, rfl⟩
    rw [h]

end Go.Proofs.Ytmdgloeejjepmaa
