/- Parts of the proof, joined into one text: Base, Frame, Open, Math, ProdM, DistM, FarM. -/
import Derived.Test.YthnapjodmndlaaaRows
import Derived.WalkKit
import Derived.ProofKit
import Derived.OpenShut
import Derived.Deep.QuietTactic
import Derived.BigQuiet
import Derived.Lib.Hide
import Derived.Maps.AppendAt
import Derived.Outline
import Derived.Deep.DeepMust
import Derived.Carry
import Derived.Deep.Slices
import Derived.Deep.Fields
import Derived.Lib.SmallJoins
/- Words on memory that all walks of this seat use; nothing of the program. -/
namespace Go.Proofs.Ythnapjodmndlaaa
set_option linter.unusedVariables false
set_option linter.unusedSimpArgs false
open Go.ChangeShapes Go.WideShapes Go.ChangeAt Go.RowKit

/-! ### 'ext w u': a world in which all blocks of w are as they were -/
def ext (w u : World) : World := { u with heap := w.heap ++ u.heap.extract w.heap.size u.heap.size, os := w.os, tape := w.tape, output := w.output }

theorem ext_below (w u : World) : Below w.heap.size w (ext w u) :=
  ⟨rfl, rfl, rfl, by simp [ext], fun k hk => by simp [ext, Array.getElem?_append, hk]⟩
theorem ext_of {w w' : World} (h : Below w.heap.size w w') : ∃ u, w' = ext w u := by
  refine ⟨w', ?_⟩
  obtain ⟨h1, h2, h3, h4, h5⟩ := h
  have hh : w.heap ++ w'.heap.extract w.heap.size w'.heap.size = w'.heap := by
    apply Array.ext_getElem?
    intro i
    rw [Array.getElem?_append]
    split
    · rename_i hi
      exact (h5 i hi).symm
    · rw [Array.getElem?_extract]
      split
      · congr 1; omega
      · rw [Array.getElem?_eq_none]; omega
  cases w'
  simp only [ext] at *
  simp_all
theorem ext_cell {w u : World} {b o : Nat} (h : b < w.heap.size) : (ext w u).cell? ⟨b, o, none⟩ = w.cell? ⟨b, o, none⟩ := (ext_below w u).cell (p := ⟨b, o, none⟩) h
theorem ext_frozen {w u : World} {b o : Nat} (h : b < w.heap.size) : (ext w u).frozen? ⟨b, o, none⟩ = w.frozen? ⟨b, o, none⟩ := (ext_below w u).frozen (p := ⟨b, o, none⟩) h
theorem ext_size (w u : World) : w.heap.size ≤ (ext w u).heap.size := (ext_below w u).size
theorem ext_lt {w u : World} {b : Nat} (h : b < w.heap.size) : (b < (ext w u).heap.size) = True := by
  have := ext_size w u
  simp; omega
theorem ext_lt1 {w u : World} {b : Nat} (h : b < w.heap.size) : (b < (ext w u).heap.size + 1) = True := by
  have := ext_size w u
  simp; omega
theorem ext_lt2 {w u : World} {b : Nat} (h : b < w.heap.size) : (b < (ext w u).heap.size + 1 + 1) = True := by
  have := ext_size w u
  simp; omega
theorem ext_lt3 {w u : World} {b : Nat} (h : b < w.heap.size) : (b < (ext w u).heap.size + 1 + 1 + 1) = True := by
  have := ext_size w u
  simp; omega
theorem ltn2 (n : Nat) : (n < n + 1 + 1) = True := eq_true (by omega)
theorem ltn3 (n : Nat) : (n < n + 1 + 1 + 1) = True := eq_true (by omega)
theorem ltn13 (n : Nat) : (n + 1 < n + 1 + 1 + 1) = True := eq_true (by omega)
theorem lts1 {b n : Nat} (h : b < n) : (b < n + 1) = True := eq_true (by omega)
theorem lts2 {b n : Nat} (h : b < n) : (b < n + 1 + 1) = True := eq_true (by omega)
theorem lts3 {b n : Nat} (h : b < n) : (b < n + 1 + 1 + 1) = True := eq_true (by omega)
theorem below_trans {a b c : World} (h : Below a.heap.size a b) (k : Below b.heap.size b c) : Below a.heap.size a c := h.trans (k.mono h.size)
theorem ext_ext (w u v : World) : ∃ x, ext (ext w u) v = ext w x := ext_of (below_trans (ext_below w u) (ext_below _ v))
theorem ext_self (w : World) : w = ext w w := by
  obtain ⟨u, hu⟩ := ext_of (Below.refl w.heap.size w)
  have h : ext w w = w := by
    cases w
    simp [ext]
  exact h.symm
theorem below_drewN {B : Nat} {a w : World} (h : Below B a w) (n : Nat) : Below B a (w.drewN n) := ⟨h.os, h.tape, h.output, h.size, h.block⟩
theorem below_ext {B : Nat} {a w : World} (h : Below B a w) (hB : B ≤ w.heap.size) (u : World) : Below B a (ext w u) := h.trans ((ext_below w u).mono hB)

theorem Calls.ext_of {P : Program} {f : FuncId} {args : Array Value} {w u : World} {v : Value}
    (h : Calls P f args (ext w u) fun e w' => e = .returned v ∧ Below (ext w u).heap.size (ext w u) w') : Calls P f args (ext w u) fun e w'' => e = .returned v ∧ ∃ x, w'' = ext w x :=
  h.mono fun _ _ ⟨he, hb⟩ => ⟨he, Go.Proofs.Ythnapjodmndlaaa.ext_of (below_trans (ext_below w u) hb)⟩

theorem wp_region_ext_lit {P : Program} {id : Nat} {Q : Exit → Act → World → Prop} {a : Act} {w : World} {l : List Oper} (hm : P.follows .mixedOrders = true) (hB : Region.lexB .any l.toArray = true)
    (h : wpQuiet P l.toArray (fun w' => ∃ u, w' = ext w u) (fun a' => ∀ w', (∃ u, w' = ext w u) → Q .normal a' w') l a) : (Code.region id l.toArray true).wp P Q a w :=
  wp_region_quiet (C := fun w' => ∃ u, w' = ext w u) hm hB (Go.Proofs.Ythnapjodmndlaaa.ext_of ⟨rfl, rfl, rfl, Nat.le_refl _, fun _ _ => rfl⟩) (by simpa using h)

/-! ### Only the blocks from lo to hi have turned -/
structure Only (lo hi : Nat) (w w' : World) : Prop where
  os : w'.os = w.os
  tape : w'.tape = w.tape
  output : w'.output = w.output
  size : w.heap.size ≤ w'.heap.size
  block : ∀ n, n < w.heap.size → (n < lo ∨ hi ≤ n) → w'.heap[n]? = w.heap[n]?

theorem Only.of_below {w w' : World} (h : Below w.heap.size w w') (lo hi : Nat) : Only lo hi w w' := ⟨h.os, h.tape, h.output, h.size, fun n hn _ => h.block n hn⟩
theorem Only.refl (lo hi : Nat) (w : World) : Only lo hi w w := ⟨rfl, rfl, rfl, Nat.le_refl _, fun _ _ _ => rfl⟩
theorem Only.trans {lo hi : Nat} {a b c : World} (h : Only lo hi a b) (k : Only lo hi b c) : Only lo hi a c :=
  ⟨k.os.trans h.os, k.tape.trans h.tape, k.output.trans h.output, Nat.le_trans h.size k.size, fun n hn ho => (k.block n (Nat.lt_of_lt_of_le hn h.size) ho).trans (h.block n hn ho)⟩
theorem Only.mono {lo hi lo' hi' : Nat} {a b : World} (h : Only lo hi a b) (h1 : lo' ≤ lo) (h2 : hi ≤ hi') : Only lo' hi' a b :=
  ⟨h.os, h.tape, h.output, h.size, fun n hn ho => h.block n hn (by omega)⟩
theorem Only.below {lo hi : Nat} {a b : World} (h : Only lo hi a b) {B : Nat} (hB : B ≤ lo) (hs : B ≤ a.heap.size) : Below B a b :=
  ⟨h.os, h.tape, h.output, h.size, fun n hn => h.block n (by omega) (.inl (by omega))⟩
theorem Only.drew {lo hi : Nat} {a b : World} (h : Only lo hi a b) : Only lo hi a b.drew := ⟨h.os, h.tape, h.output, h.size, h.block⟩
theorem Only.drewN {lo hi : Nat} {a b : World} (h : Only lo hi a b) (n : Nat) : Only lo hi a (b.drewN n) := ⟨h.os, h.tape, h.output, h.size, h.block⟩
theorem Only.alloc {lo hi : Nat} {a b : World} (h : Only lo hi a b) (o : Obj) : Only lo hi a (b.alloc o) :=
  h.trans ⟨rfl, rfl, rfl, by simp, fun n hn _ => Below.heap_alloc _ _ _ hn⟩
theorem Only.setCell {lo hi : Nat} {a b : World} (h : Only lo hi a b) {p : Addr} (h1 : lo ≤ p.block ∧ p.block < hi ∨ a.heap.size ≤ p.block) (u : Value) : Only lo hi a (b.setCell p u) :=
  ⟨h.os, h.tape, h.output, by simpa [World.setCell] using h.size, fun n hn ho => (Below.heap_setCell _ _ _ _ (by omega)).trans (h.block n hn ho)⟩
theorem Only.cell {lo hi : Nat} {w w' : World} (h : Only lo hi w w') {p : Addr} (hp : p.block < w.heap.size) (ho : p.block < lo ∨ hi ≤ p.block) : w'.cell? p = w.cell? p := World.cell?_of_block (w := w) (h.block p.block hp ho)

/-! ### A slice that reads as a list: each element is k cells, 'E x'; its block lies from lo to hi -/
def SlI {α : Type} (lo hi : Nat) (w : World) (E : α → List Value) (k : Nat) (v : Value) (xs : List α) : Prop :=
  ∃ A c, v = .slice A xs.length c ∧ xs.length ≤ c ∧ c ≤ maxLen ∧
    ∀ i x, xs[i]? = some x → ∃ b o, A = some ⟨b, o, none⟩ ∧ lo ≤ b ∧ b < hi ∧ ∀ j u, (E x)[j]? = some u → w.cell? ⟨b, o + i * k + j, none⟩ = some u
abbrev SlE {α : Type} (w : World) (E : α → List Value) (k : Nat) (v : Value) (xs : List α) : Prop := SlI 0 w.heap.size w E k v xs

section
variable {α : Type} {lo hi : Nat} {w w' : World} {E : α → List Value} {k : Nat} {v : Value} {xs : List α}
theorem SlI.keep_ (h : SlI lo hi w E k v xs) (hb : ∀ b o, lo ≤ b → b < hi → w'.cell? ⟨b, o, none⟩ = w.cell? ⟨b, o, none⟩) : SlI lo hi w' E k v xs := by
  obtain ⟨A, c, hv, hl, hm, hx⟩ := h
  refine ⟨A, c, hv, hl, hm, fun i x hi => ?_⟩
  obtain ⟨b, o, hA, h1, h2, hc⟩ := hx i x hi
  exact ⟨b, o, hA, h1, h2, fun j u hu => (hb _ _ h1 h2).trans (hc j u hu)⟩
theorem SlI.below (h : SlI lo hi w E k v xs) {B : Nat} (hb : Below B w w') (hB : hi ≤ B) : SlI lo hi w' E k v xs :=
  h.keep_ fun b o _ h2 => hb.cell (p := ⟨b, o, none⟩) (show b < B by omega)
theorem SlI.only (h : SlI lo hi w E k v xs) {l r : Nat} (hb : Only l r w w') (hh : hi ≤ w.heap.size) (ho : hi ≤ l ∨ r ≤ lo) : SlI lo hi w' E k v xs :=
  h.keep_ fun b o h1 h2 => hb.cell (p := ⟨b, o, none⟩) (show b < _ by omega) (show b < l ∨ r ≤ b by omega)
theorem SlI.mono (h : SlI lo hi w E k v xs) {lo' hi' : Nat} (h1 : lo' ≤ lo) (h2 : hi ≤ hi') : SlI lo' hi' w E k v xs := by
  obtain ⟨A, c, hv, hl, hm, hx⟩ := h
  refine ⟨A, c, hv, hl, hm, fun i x hi => ?_⟩
  obtain ⟨b, o, hA, g1, g2, hc⟩ := hx i x hi
  exact ⟨b, o, hA, by omega, by omega, hc⟩
theorem SlI.all (h : SlI lo hi w E k v xs) (hh : hi ≤ w.heap.size) : SlE w E k v xs := h.mono (Nat.zero_le _) hh
theorem SlE.keep (h : SlE w E k v xs) (hb : Below w.heap.size w w') : SlE w' E k v xs := (SlI.below h hb (Nat.le_refl _)).mono (Nat.le_refl _) hb.size
theorem SlE.ext (h : SlE w E k v xs) (u : World) : SlE (ext w u) E k v xs := h.keep (ext_below w u)
theorem SlI.shape (h : SlI lo hi w E k v xs) : ∃ A n c, v = .slice A n c := by
  obtain ⟨A, c, rfl, _⟩ := h
  exact ⟨_, _, _, rfl⟩
theorem SlI.nil (lo hi : Nat) (w : World) (E : α → List Value) (k : Nat) : SlI lo hi w E k (.slice none 0 0) [] := ⟨none, 0, rfl, Nat.le_refl _, by unfold maxLen; omega, by simp⟩
end

/-! ### A slice that the call itself made: a row of its own -/
def Own {α : Type} (lo hi : Nat) (w : World) (e : TypeId) (E : α → List Value) (k : Nat) (v : Value) (xs : List α) : Prop :=
  w.ownsRow lo e k v xs.length (xs.flatMap E) ∧ ∀ g, v.ownBlock = some g → g < hi

theorem flat_at {α : Type} {E : α → List Value} {k : Nat} (hE : ∀ x, (E x).length = k) : ∀ {xs : List α} {i : Nat} {x : α}, xs[i]? = some x → ∀ j u, (E x)[j]? = some u → (xs.flatMap E)[i * k + j]? = some u := by
  intro xs
  induction xs with
  | nil => intro i x h; simp at h
  | cons y ys ih =>
    intro i x h j u hu
    have hj : j < k := by have := (List.getElem?_eq_some_iff.1 hu).1; rw [hE] at this; exact this
    cases i with
    | zero =>
      have hxy : y = x := by simpa using h
      subst hxy
      simp only [List.flatMap_cons, Nat.zero_mul, Nat.zero_add]
      rw [List.getElem?_append_left (by rw [hE]; exact hj)]
      exact hu
    | succ i =>
      simp only [List.flatMap_cons]
      rw [List.getElem?_append_right (by rw [hE, Nat.succ_mul]; omega), hE]
      have := ih (i := i) (x := x) (by simpa using h) j u hu
      rw [← this]
      congr 1
      rw [Nat.succ_mul]; omega

section
variable {α : Type} {lo hi : Nat} {w w' : World} {e : TypeId} {E : α → List Value} {k : Nat} {v : Value} {xs : List α}
theorem Own.lt (h : Own lo hi w e E k v xs) : ∀ g, v.ownBlock = some g → lo ≤ g ∧ g < hi ∧ g < w.heap.size := fun g hg => ⟨(h.1.lt g hg).1, h.2 g hg, (h.1.lt g hg).2⟩
theorem Own.sl (h : Own lo hi w e E k v xs) (hE : ∀ x, (E x).length = k) : SlI lo hi w E k v xs := by
  obtain ⟨hr, hlt⟩ := h
  have hr' := hr
  obtain ⟨hl, hs⟩ := hr'
  rcases hs with ⟨rfl, hn⟩ | ⟨g, cap, cur, rfl, hg, hh, hnc, hcm, hsz, htk⟩
  · have : xs = [] := List.eq_nil_of_length_eq_zero hn
    subst this
    exact SlI.nil _ _ _ _ _
  · refine ⟨_, cap, rfl, hnc, hcm, fun i x hi => ⟨g, 0, rfl, hg, hlt g rfl, fun j u hu => ?_⟩⟩
    have hf := flat_at hE hi j u hu
    have hj := (List.getElem?_eq_some_iff.1 hf).1
    rw [hl] at hj
    rw [Nat.zero_add]
    exact (World.ownsRow.cellAt hr _ hj).trans hf
theorem Own.kept (h : Own lo hi w e E k v xs) {row : Option Nat} (hg : w.grownBy w' row) (hne : v.ownBlock = none ∨ v.ownBlock ≠ row) : Own lo hi w' e E k v xs := ⟨h.1.kept hg hne, h.2⟩
theorem Own.below (h : Own lo hi w e E k v xs) {B : Nat} (hb : Below B w w') (hB : hi ≤ B) : Own lo hi w' e E k v xs := by
  obtain ⟨⟨hl, hs⟩, hlt⟩ := h
  refine ⟨⟨hl, ?_⟩, hlt⟩
  rcases hs with hs | ⟨g, cap, cur, rfl, hg, hh, r⟩
  · exact .inl hs
  · exact .inr ⟨g, cap, cur, rfl, hg, (hb.block g (by have := hlt g rfl; omega)).trans hh, r⟩
theorem Own.only (h : Own lo hi w e E k v xs) {l r : Nat} (hb : Only l r w w') (ho : hi ≤ l ∨ r ≤ lo) : Own lo hi w' e E k v xs := by
  have hx := h.lt
  obtain ⟨⟨hl, hs⟩, hlt⟩ := h
  refine ⟨⟨hl, ?_⟩, hlt⟩
  rcases hs with hs | ⟨g, cap, cur, rfl, hg, hh, rr⟩
  · exact .inl hs
  · have := hx g rfl
    exact .inr ⟨g, cap, cur, rfl, hg, (hb.block g this.2.2 (by omega)).trans hh, rr⟩
theorem Own.mono (h : Own lo hi w e E k v xs) {lo' hi' : Nat} (h1 : lo' ≤ lo) (h2 : hi ≤ hi') : Own lo' hi' w e E k v xs := by
  obtain ⟨⟨hl, hs⟩, hlt⟩ := h
  refine ⟨⟨hl, ?_⟩, fun g hg => Nat.lt_of_lt_of_le (hlt g hg) h2⟩
  rcases hs with hs | ⟨g, cap, cur, rfl, hg, hh, r⟩
  · exact .inl hs
  · exact .inr ⟨g, cap, cur, rfl, by omega, hh, r⟩
theorem Own.of_row {n : Nat} {cs : List Value} (h : w.ownsRow lo e k v n cs) (hn : xs.length = n) (hc : xs.flatMap E = cs) : Own lo w.heap.size w e E k v xs := by
  subst hn hc
  exact ⟨h, fun g hg => (h.lt g hg).2⟩
theorem Own.shape (h : Own lo hi w e E k v xs) : ∃ A n c, v = .slice A n c := by
  obtain ⟨⟨_, hs⟩, _⟩ := h
  rcases hs with ⟨rfl, _⟩ | ⟨g, cap, cur, rfl, _⟩
  · exact ⟨_, _, _, rfl⟩
  · exact ⟨_, _, _, rfl⟩
theorem Own.nil (lo hi : Nat) (w : World) (e : TypeId) (E : α → List Value) (k : Nat) : Own lo hi w e E k (.slice none 0 0) [] := ⟨World.ownsRow_nil w lo e k, by intro g hg; cases hg⟩
end

/-! ### A block of the call's own that is known whole -/
def Blk (w : World) (g : Nat) (t : TypeId) (cs : Array Value) : Prop := w.heap[g]? = some (.cells cs t (0, 0))
section
variable {w w' : World} {g : Nat} {t : TypeId} {cs : Array Value}
theorem Blk.lt (h : Blk w g t cs) : g < w.heap.size := by
  rcases Nat.lt_or_ge g w.heap.size with hlt | hge
  · exact hlt
  · unfold Blk at h; rw [Array.getElem?_eq_none hge] at h; cases h
theorem Blk.cell (h : Blk w g t cs) (i : Nat) : w.cell? ⟨g, i, none⟩ = cs[i]? := cell_of_row w g i cs t (0, 0) h
theorem Blk.frozen (h : Blk w g t cs) (i : Nat) : w.frozen? ⟨g, i, none⟩ = false := by
  unfold Blk at h
  simp [World.frozen?, h]
theorem Blk.new (w : World) (t : TypeId) (cs : Array Value) (n : Nat) (hn : n = w.heap.size) : Blk (w.alloc (.cells cs t)) n t cs := by subst hn; exact heap_alloc_new w _
theorem Blk.drew (h : Blk w g t cs) : Blk w.drew g t cs := h
theorem Blk.drewN (h : Blk w g t cs) (n : Nat) : Blk (w.drewN n) g t cs := h
theorem Blk.alloc (h : Blk w g t cs) (o : Obj) : Blk (w.alloc o) g t cs := (Below.heap_alloc w o g h.lt).trans h
theorem Blk.set_ (h : Blk w g t cs) (i : Nat) (u : Value) : Blk (w.setCell ⟨g, i, none⟩ u) g t (cs.setIfInBounds i u) := by
  unfold Blk at h ⊢
  simp [World.setCell, Array.getElem?_modify, h]
theorem Blk.far (h : Blk w g t cs) {p : Addr} (hp : g ≠ p.block) (u : Value) : Blk (w.setCell p u) g t cs := (Below.heap_setCell w p u g hp).trans h
theorem Blk.below (h : Blk w g t cs) {B : Nat} (hb : Below B w w') (hg : g < B) : Blk w' g t cs := (hb.block g hg).trans h
theorem Blk.keep (h : Blk w g t cs) (hb : Below w.heap.size w w') : Blk w' g t cs := (hb.block g h.lt).trans h
theorem Blk.only (h : Blk w g t cs) {l r : Nat} (hb : Only l r w w') (ho : g < l ∨ r ≤ g) : Blk w' g t cs := (hb.block g h.lt ho).trans h
end

/-! ### The plain data -/
abbrev Pr := Int × Int
abbrev Ed := Int × Int × Int × Int
abbrev St := Int × Bool
abbrev Wk := Int × List St
def cI (x : Int) : List Value := [.int .i64 x]
def cB (x : Bool) : List Value := [.bool x]
def cU (x : Int) : List Value := [.int .u8 x]
def cV (x : Value) : List Value := [x]
def cPr (p : Pr) : List Value := [.int .i64 p.1, .int .i64 p.2]
def cEd (p : Ed) : List Value := [.int .i64 p.1, .int .i64 p.2.1, .int .i64 p.2.2.1, .int .i64 p.2.2.2]
def cSt (p : St) : List Value := [.int .i64 p.1, .bool p.2]
theorem cI_len (x : Int) : (cI x).length = 1 := rfl
theorem cB_len (x : Bool) : (cB x).length = 1 := rfl
theorem cU_len (x : Int) : (cU x).length = 1 := rfl
theorem cV_len (x : Value) : (cV x).length = 1 := rfl
theorem cPr_len (x : Pr) : (cPr x).length = 2 := rfl
theorem cEd_len (x : Ed) : (cEd x).length = 4 := rfl
theorem cSt_len (x : St) : (cSt x).length = 2 := rfl

theorem cI_one (x : Int) : ∀ u ∈ cI x, u.oneCell' = true := by intro u hu; simp only [cI, List.mem_cons, List.not_mem_nil, or_false] at hu; subst hu; rfl
theorem cB_one (x : Bool) : ∀ u ∈ cB x, u.oneCell' = true := by intro u hu; simp only [cB, List.mem_cons, List.not_mem_nil, or_false] at hu; subst hu; rfl
theorem cPr_one (x : Pr) : ∀ u ∈ cPr x, u.oneCell' = true := by intro u hu; simp only [cPr, List.mem_cons, List.not_mem_nil, or_false] at hu; rcases hu with rfl | rfl <;> rfl
theorem cSt_one (x : St) : ∀ u ∈ cSt x, u.oneCell' = true := by intro u hu; simp only [cSt, List.mem_cons, List.not_mem_nil, or_false] at hu; rcases hu with rfl | rfl <;> rfl
theorem cEd_one (x : Ed) : ∀ u ∈ cEd x, u.oneCell' = true := by intro u hu; simp only [cEd, List.mem_cons, List.not_mem_nil, or_false] at hu; rcases hu with rfl | rfl | rfl | rfl <;> rfl

/-! ### Graphs, automata, walks -/
structure Gr where
  vals : List Int
  edges : List Ed
structure Au where
  start : Int
  accept : List Bool
  next : List (List Int)
def GrV (lo hi : Nat) (w : World) (v : Value) (g : Gr) : Prop := ∃ vs es, v = .agg #[vs, es] ∧ SlI lo hi w cI 1 vs g.vals ∧ SlI lo hi w cEd 4 es g.edges
/-- a slice of slices of numbers -/
def SSV (lo hi : Nat) (w : World) (v : Value) (xss : List (List Int)) : Prop :=
  ∃ vs : List Value, SlI lo hi w cV 1 v vs ∧ vs.length = xss.length ∧ ∀ (i : Nat) (u : Value) (xs : List Int), vs[i]? = some u → xss[i]? = some xs → SlI lo hi w cI 1 u xs
def AuV (lo hi : Nat) (w : World) (v : Value) (a : Au) : Prop := ∃ ac nx, v = .agg #[.int .i64 a.start, ac, nx] ∧ SlI lo hi w cB 1 ac a.accept ∧ SSV lo hi w nx a.next
def WkV (lo hi : Nat) (w : World) (v : Value) (k : Wk) : Prop := ∃ ss, v = .agg #[.int .i64 k.1, ss] ∧ SlI lo hi w cSt 2 ss k.2

section
variable {lo hi : Nat} {w w' : World} {v : Value}
theorem GrV.below {g : Gr} (h : GrV lo hi w v g) {B : Nat} (hb : Below B w w') (hB : hi ≤ B) : GrV lo hi w' v g := by
  obtain ⟨vs, es, rfl, h1, h2⟩ := h
  exact ⟨vs, es, rfl, h1.below hb hB, h2.below hb hB⟩
theorem GrV.mono {g : Gr} (h : GrV lo hi w v g) {lo' hi' : Nat} (h1 : lo' ≤ lo) (h2 : hi ≤ hi') : GrV lo' hi' w v g := by
  obtain ⟨vs, es, rfl, g1, g2⟩ := h
  exact ⟨vs, es, rfl, g1.mono h1 h2, g2.mono h1 h2⟩
theorem GrV.all {g : Gr} (h : GrV lo hi w v g) (hh : hi ≤ w.heap.size) : GrV 0 w.heap.size w v g := h.mono (Nat.zero_le _) hh
theorem GrV.keep {g : Gr} (h : GrV 0 w.heap.size w v g) (hb : Below w.heap.size w w') : GrV 0 w'.heap.size w' v g := (h.below hb (Nat.le_refl _)).mono (Nat.le_refl _) hb.size
theorem GrV.only {g : Gr} (h : GrV lo hi w v g) {l r : Nat} (hb : Only l r w w') (hh : hi ≤ w.heap.size) (ho : hi ≤ l ∨ r ≤ lo) : GrV lo hi w' v g := by
  obtain ⟨vs, es, rfl, g1, g2⟩ := h
  exact ⟨vs, es, rfl, g1.only hb hh ho, g2.only hb hh ho⟩
theorem SSV.below {x : List (List Int)} (h : SSV lo hi w v x) {B : Nat} (hb : Below B w w') (hB : hi ≤ B) : SSV lo hi w' v x := by
  obtain ⟨vs, h1, h2, h3⟩ := h
  exact ⟨vs, h1.below hb hB, h2, fun i u xs hu hx => (h3 i u xs hu hx).below hb hB⟩
theorem SSV.shape {x : List (List Int)} (h : SSV lo hi w v x) : ∃ A n c, v = .slice A n c := by
  obtain ⟨vs, h1, _⟩ := h
  exact h1.shape
theorem AuV.shape {a : Au} (h : AuV lo hi w v a) : ∃ A1 n1 c1 A2 n2 c2, v = .agg #[.int .i64 a.start, .slice A1 n1 c1, .slice A2 n2 c2] := by
  obtain ⟨vs, es, rfl, h1, h2⟩ := h
  obtain ⟨A1, n1, c1, rfl⟩ := h1.shape
  obtain ⟨A2, n2, c2, rfl⟩ := h2.shape
  exact ⟨_, _, _, _, _, _, rfl⟩
theorem AuV.restart {A1 A2 : Option Addr} {n1 c1 n2 c2 : Nat} {a : Au} {s0 : Int} (h : AuV lo hi w (.agg #[.int .i64 s0, .slice A1 n1 c1, .slice A2 n2 c2]) a) (s : Int) : AuV lo hi w (.agg #[.int .i64 s, .slice A1 n1 c1, .slice A2 n2 c2]) ⟨s, a.accept, a.next⟩ := by
  obtain ⟨vs, es, hv, h1, h2⟩ := h
  injection hv with hv
  simp at hv
  obtain ⟨_, rfl, rfl⟩ := hv
  exact ⟨_, _, rfl, h1, h2⟩
theorem GrV.shape {g : Gr} (h : GrV lo hi w v g) : ∃ A1 n1 c1 A2 n2 c2, v = .agg #[.slice A1 n1 c1, .slice A2 n2 c2] := by
  obtain ⟨vs, es, rfl, h1, h2⟩ := h
  obtain ⟨A1, n1, c1, rfl⟩ := h1.shape
  obtain ⟨A2, n2, c2, rfl⟩ := h2.shape
  exact ⟨_, _, _, _, _, _, rfl⟩
theorem WkV.shape {k : Wk} (h : WkV lo hi w v k) : ∃ A1 n1 c1, v = .agg #[.int .i64 k.1, .slice A1 n1 c1] := by
  obtain ⟨vs, rfl, h1⟩ := h
  obtain ⟨A1, n1, c1, rfl⟩ := h1.shape
  exact ⟨_, _, _, rfl⟩
theorem SSV.mono {x : List (List Int)} (h : SSV lo hi w v x) {lo' hi' : Nat} (h1 : lo' ≤ lo) (h2 : hi ≤ hi') : SSV lo' hi' w v x := by
  obtain ⟨vs, g1, g2, g3⟩ := h
  exact ⟨vs, g1.mono h1 h2, g2, fun i u xs hu hx => (g3 i u xs hu hx).mono h1 h2⟩
theorem SSV.all {x : List (List Int)} (h : SSV lo hi w v x) (hh : hi ≤ w.heap.size) : SSV 0 w.heap.size w v x := h.mono (Nat.zero_le _) hh
theorem SSV.keep {x : List (List Int)} (h : SSV 0 w.heap.size w v x) (hb : Below w.heap.size w w') : SSV 0 w'.heap.size w' v x := (h.below hb (Nat.le_refl _)).mono (Nat.le_refl _) hb.size
theorem SSV.only {x : List (List Int)} (h : SSV lo hi w v x) {l r : Nat} (hb : Only l r w w') (hh : hi ≤ w.heap.size) (ho : hi ≤ l ∨ r ≤ lo) : SSV lo hi w' v x := by
  obtain ⟨vs, g1, g2, g3⟩ := h
  exact ⟨vs, g1.only hb hh ho, g2, fun i u xs hu hx => (g3 i u xs hu hx).only hb hh ho⟩
theorem AuV.below {a : Au} (h : AuV lo hi w v a) {B : Nat} (hb : Below B w w') (hB : hi ≤ B) : AuV lo hi w' v a := by
  obtain ⟨vs, es, rfl, h1, h2⟩ := h
  exact ⟨vs, es, rfl, h1.below hb hB, h2.below hb hB⟩
theorem AuV.mono {a : Au} (h : AuV lo hi w v a) {lo' hi' : Nat} (h1 : lo' ≤ lo) (h2 : hi ≤ hi') : AuV lo' hi' w v a := by
  obtain ⟨vs, es, rfl, g1, g2⟩ := h
  exact ⟨vs, es, rfl, g1.mono h1 h2, g2.mono h1 h2⟩
theorem AuV.all {a : Au} (h : AuV lo hi w v a) (hh : hi ≤ w.heap.size) : AuV 0 w.heap.size w v a := h.mono (Nat.zero_le _) hh
theorem AuV.keep {a : Au} (h : AuV 0 w.heap.size w v a) (hb : Below w.heap.size w w') : AuV 0 w'.heap.size w' v a := (h.below hb (Nat.le_refl _)).mono (Nat.le_refl _) hb.size
theorem AuV.only {a : Au} (h : AuV lo hi w v a) {l r : Nat} (hb : Only l r w w') (hh : hi ≤ w.heap.size) (ho : hi ≤ l ∨ r ≤ lo) : AuV lo hi w' v a := by
  obtain ⟨vs, es, rfl, g1, g2⟩ := h
  exact ⟨vs, es, rfl, g1.only hb hh ho, g2.only hb hh ho⟩
theorem WkV.below {a : Wk} (h : WkV lo hi w v a) {B : Nat} (hb : Below B w w') (hB : hi ≤ B) : WkV lo hi w' v a := by
  obtain ⟨vs, rfl, h1⟩ := h
  exact ⟨vs, rfl, h1.below hb hB⟩
theorem WkV.mono {a : Wk} (h : WkV lo hi w v a) {lo' hi' : Nat} (h1 : lo' ≤ lo) (h2 : hi ≤ hi') : WkV lo' hi' w v a := by
  obtain ⟨vs, rfl, g1⟩ := h
  exact ⟨vs, rfl, g1.mono h1 h2⟩
theorem WkV.all {a : Wk} (h : WkV lo hi w v a) (hh : hi ≤ w.heap.size) : WkV 0 w.heap.size w v a := h.mono (Nat.zero_le _) hh
theorem WkV.keep {a : Wk} (h : WkV 0 w.heap.size w v a) (hb : Below w.heap.size w w') : WkV 0 w'.heap.size w' v a := (h.below hb (Nat.le_refl _)).mono (Nat.le_refl _) hb.size
theorem WkV.only {a : Wk} (h : WkV lo hi w v a) {l r : Nat} (hb : Only l r w w') (hh : hi ≤ w.heap.size) (ho : hi ≤ l ∨ r ≤ lo) : WkV lo hi w' v a := by
  obtain ⟨vs, rfl, g1⟩ := h
  exact ⟨vs, rfl, g1.only hb hh ho⟩
end

theorem ret_int {k : IntKind} {a b : Int} (h : a = b) : Ending.returned (.int k a) = .returned (.int k b) := by rw [h]
theorem take_snoc {α : Type} {xs : List α} {k : Nat} {x : α} (hx : xs[k]? = some x) : xs.take (k + 1) = xs.take k ++ [x] := by
  rw [List.take_add_one, hx]; rfl
theorem take_eq_snoc {α : Type} {xs ys : List α} {k : Nat} {x y : α} (hx : xs[k]? = some x) (hy : ys[k]? = some y) : (xs.take (k + 1) = ys.take (k + 1)) ↔ (xs.take k = ys.take k ∧ x = y) := by
  rw [take_snoc hx, take_snoc hy]
  have hlx : (xs.take k).length = (ys.take k).length := by
    have h1 := (List.getElem?_eq_some_iff.1 hx).1
    have h2 := (List.getElem?_eq_some_iff.1 hy).1
    simp; omega
  constructor
  · intro h
    have := List.append_inj h hlx
    exact ⟨this.1, by simpa using this.2⟩
  · rintro ⟨h, rfl⟩
    rw [h]

end Go.Proofs.Ythnapjodmndlaaa

/- From a walk of a law ('returns true; below the heap's old size nothing has turned') to the statement's step: any number of parameters. -/
namespace Go.Proofs.Ythnapjodmndlaaa
set_option linter.unusedVariables false
set_option linter.unusedSimpArgs false
open Go.ChangeShapes Go.WideShapes Go.ChangeAt Go.RowKit

section
variable {H : Type} {enc : TypeId × Value → H} {P : Program}

theorem keep_all (hl : laidOutB P = true) {W W' : World} (hb : Below W.heap.size W W') : ∀ (ts : List TypeId), ts.all (fun t => P.readableRec t && decide (t < P.types.size)) = true →
    ∀ (vs : List Value) (ds : List (DataW H)) (ps : List MemPlace), DataW.TrodAll enc P W 0 (fun _ => true) true ts vs ds ps → ∀ sp : Nat → Bool, (∀ x ∈ ps, x.block < W.heap.size ∧ sp x.block = true) →
    DataW.TrodAll enc P W' 0 sp true ts vs ds ps := by
  intro ts
  induction ts with
  | nil =>
    intro _ vs ds ps h _ _
    obtain ⟨rfl, rfl, rfl⟩ := trodAll_nil h
    exact trodAll_mk0
  | cons t ts ih =>
    intro hr vs ds ps h sp hlt
    simp only [List.all_cons, Bool.and_eq_true, decide_eq_true_eq] at hr
    obtain ⟨v, vs', d, ds', p, q, rfl, rfl, rfl, h0, h1⟩ := trodAll_cons h
    exact trodAll_cons_mk (WideElems.Trod_stays hl hr.1.1 hr.1.2 h0 (fun x hx => hb.same (hlt x (List.mem_append_left _ hx)).1) (fun x hx => (hlt x (List.mem_append_left _ hx)).2)) (ih hr.2 _ _ _ h1 sp (fun x hx => hlt x (List.mem_append_right _ hx)))

theorem post_of_below {f : Func} {s : ChangeSpec} {apart fresh handsOn again : Bool} {W W' : World} {args : Array Value} {v : Value} {ds gs : List (DataW H)} {before pa pv : List MemPlace}
    (hW : DataW.Whole enc P f.params.toList s.vars apart W args.toList ds gs before)
    (hres : ∀ (b : Nat) (sp : Nat → Bool) (hd : Bool), DataW.TrodAll enc P W' b sp hd f.resultTypes.toList (v.resultList f.resultTypes.size) (s.fn H (ds ++ gs)).results [])
    (hargs : ∀ sp : Nat → Bool, (∀ p ∈ before, sp p.block = true) → DataW.TrodAll enc P W' 0 sp true f.params.toList args.toList (s.fn H (ds ++ gs)).args pa)
    (hvars : ∀ sp : Nat → Bool, (∀ p ∈ before, sp p.block = true) → DataW.TrodVars enc P W' sp s.vars (s.fn H (ds ++ gs)).vars pv)
    (hps : before = pa ++ pv) (hb : Below W.heap.size W W')
    (hok : ∀ (j : Nat) (t : TypeId) (r : Value), f.resultTypes[j]? = some t → (v.resultList f.resultTypes.size)[j]? = some r → Value.okWide P W' .any 0 t r) :
    s.post enc P f apart fresh handsOn again W args v W' := by
  have hlt : ∀ p ∈ before, p.block < W.heap.size := fun p hp => hW.lt p hp
  have hold : ∀ p ∈ before, (fun b => decide (b < W.heap.size)) p.block = true := fun p hp => by simpa using hlt p hp
  refine ⟨ds, gs, before, [], pa, pv, hW, hres _ _ _, hargs _ hold, hvars _ hold, World.keptBut_mono (fun p hp => ⟨hp, ?_⟩) (hb.frame (· ∈ before)), fun _ => ?_⟩
  · rw [hps, List.mem_append] at hp
    exact Or.inr hp
  · obtain ⟨_, _, _, _, _, hz, hn⟩ := hW
    refine ⟨hok, _, _, ([] ++ pa) ++ pv, ⟨[] ++ pa, pv, trodAll_append (hargs _ (fun _ _ => rfl)) (hres _ _ _), hvars _ (fun _ _ => rfl), rfl, ?_, ?_⟩, ?_⟩
    · intro b off hp
      have hin : MemPlace.cell b off ∈ before := by rw [hps]; simpa using hp
      rw [hb.frozen (hlt _ hin)]
      exact hz b off hin
    · intro ha
      have := hn ha
      rw [hps] at this
      simpa using this
    · intro p hp _
      rw [hps]
      simpa using hp

/-- THE LAW's STEP: its walk says 'true, and Below'. -/
theorem law_post {f : Func} {s : ChangeSpec} {tb : TypeId} (hl : laidOutB P = true) (hr : f.params.toList.all (fun t => P.readableRec t && decide (t < P.types.size)) = true) (hrt : f.resultTypes = #[tb]) (htb : P.underlying tb = some .bool)
    (hvars : s.vars = []) {W W' : World} {args : Array Value} {ds gs : List (DataW H)} {before : List MemPlace} (hfn : s.fn H (ds ++ gs) = { results := [.lit (.bool true)], args := ds })
    (hW : DataW.Whole enc P f.params.toList s.vars false W args.toList ds gs before) (hb : Below W.heap.size W W') :
    s.post enc P f false true false false W args (.bool true) W' := by
  have hW' := hW
  obtain ⟨p, q, hA, hV, hpq, _, _⟩ := hW
  rw [hvars] at hV
  obtain ⟨hgs, hq⟩ := trodVars_none hV
  subst hq
  have hlt : ∀ x ∈ before, x.block < W.heap.size := fun x hx => hW'.lt x hx
  have hbef : before = p ++ [] := hpq
  refine post_of_below (pa := p) (pv := []) hW' (fun b sp hd => ?_) (fun sp hsp => ?_) (fun sp _ => ?_) hbef hb ?_
  · rw [hfn, hrt]
    exact trodAll_cons_mk (shut_bool htb _) trodAll_mk0
  · rw [hfn]
    exact keep_all hl hb _ hr _ _ _ hA sp (fun x hx => ⟨hlt x (by rw [hbef]; simpa using hx), hsp x (by rw [hbef]; simpa using hx)⟩)
  · rw [hfn, hvars]
    exact rfl
  · exact ok_one (by rw [hrt]) rfl (okWide_bool_mk htb _)
end
end Go.Proofs.Ythnapjodmndlaaa

/- The laws' arguments, as they come in, read as plain data. -/
namespace Go.Proofs.Ythnapjodmndlaaa
set_option linter.unusedVariables false
set_option linter.unusedSimpArgs false
open Go.ChangeShapes Go.WideShapes Go.ChangeAt Go.RowKit Go.Deep Go.Joins
set_option maxRecDepth 100000

section
variable {H : Type} {enc : TypeId × Value → H} {P : Program} {w : World} {sp : Nat → Bool} {held : Bool}

theorem list_of {α : Type} {Q : Nat → α → Prop} : ∀ (n : Nat), (∀ i, i < n → ∃ x, Q i x) → ∃ xs : List α, xs.length = n ∧ ∀ i x, xs[i]? = some x → Q i x := by
  intro n
  induction n with
  | zero => intro _; exact ⟨[], rfl, by simp⟩
  | succ n ih =>
    intro h
    obtain ⟨xs, hl, hx⟩ := ih (fun i hi => h i (by omega))
    obtain ⟨x, hq⟩ := h n (by omega)
    refine ⟨xs ++ [x], by simp [hl], fun i y hy => ?_⟩
    by_cases hi : i < n
    · rw [List.getElem?_append_left (by omega)] at hy
      exact hx i y hy
    · have hin := (List.getElem?_eq_some_iff.1 hy).1
      simp only [List.length_append, List.length_cons, List.length_nil] at hin
      have : i = n := by omega
      subst this
      rw [List.getElem?_append_right (by omega), hl, Nat.sub_self] at hy
      simp at hy
      subst hy
      exact hq

theorem open_list {α : Type} (E : α → List Value) (k : Nat) (Rd : α → Prop) {t e : TypeId} {fuel : Nat} {v : Value} {y : DataW H × List MemPlace} (ht : P.underlying t = some (.slice e)) (hC : P.cellsOf e = k) (hk : 0 < k)
    (helem : ∀ (n : Nat) (cs : List Value) (y : DataW H × List MemPlace), cs.length = k → DataW.trod enc P w 0 sp held n e cs = some y → ∃ x, cs = E x ∧ Rd x)
    (h : DataW.trod enc P w 0 sp held fuel t [v] = some y) : ∃ xs, SlE w E k v xs ∧ ∀ x ∈ xs, Rd x := by
  rcases open_slice ht h with ⟨hcs, _⟩ | ⟨a, len, cap, m, n, D, Pl, hcs, _, hl, hm, hmm, _, hi⟩
  · have hv : v = .slice none 0 0 := by simpa using hcs
    subst hv
    exact ⟨[], SlI.nil _ _ _ _ _, by simp⟩
  · have hv : v = .slice (some a) len cap := by simpa using hcs
    subst hv
    have hlm : len ≤ m := by rw [hmm]; split <;> omega
    obtain ⟨xs, hxl, hx⟩ := list_of (Q := fun i x => Rd x ∧ ∀ j u, (E x)[j]? = some u → j < k ∧ w.cell? ((a.add (i * k)).add j) = some u) len (fun i hil => by
      obtain ⟨cs', hc, ht'⟩ := hi i (by omega)
      rw [hC] at hc
      obtain ⟨_, hcl, hat⟩ := World.cells?_some hc
      obtain ⟨x, rfl, hr⟩ := helem _ _ _ hcl ht'
      refine ⟨x, hr, fun j u hu => ?_⟩
      have hj : j < k := by have := (List.getElem?_eq_some_iff.1 hu).1; omega
      exact ⟨hj, (hat j hj).trans hu⟩)
    subst hxl
    refine ⟨xs, ⟨some a, cap, rfl, hl, hm, fun i x hix => ?_⟩, fun x hxm => ?_⟩
    · have hil := (List.getElem?_eq_some_iff.1 hix).1
      obtain ⟨cs', hc, ht'⟩ := hi i (by omega)
      rw [hC] at hc
      obtain ⟨_, hcl, hat⟩ := World.cells?_some hc
      obtain ⟨b, o, spot⟩ := a
      have h0 := hat 0 hk
      have hc0 : cs'[0]? = some (cs'[0]'(by omega)) := List.getElem?_eq_getElem (by omega)
      rw [hc0] at h0
      have hspot : spot = none := by
        obtain ⟨cs2, hc2, _⟩ := hi 0 (by omega)
        rw [hC] at hc2
        obtain ⟨_, hcl2, hat2⟩ := World.cells?_some hc2
        have h2 := hat2 0 hk
        rw [List.getElem?_eq_getElem (by omega)] at h2
        have := World.cell?_spot h2
        simpa [Addr.add] using this
      subst hspot
      have hadd : ∀ j, ((⟨b, o, none⟩ : Addr).add (i * k)).add j = ⟨b, o + i * k + j, none⟩ := fun j => by
        unfold Addr.add
        by_cases h1 : i * k = 0 <;> by_cases h2 : j = 0 <;> simp [h1, h2] <;> omega
      refine ⟨b, o, rfl, Nat.zero_le _, ?_, fun j u hu => ?_⟩
      · rw [hadd] at h0
        exact World.block_lt_of_cell? _ _ h0
      · have := ((hx i x hix).2 j u hu).2
        rw [hadd] at this
        exact this
    · obtain ⟨i, hil, hie⟩ := List.getElem_of_mem hxm
      exact (hx i x (by rw [List.getElem?_eq_getElem hil, hie])).1

theorem open_agg1 {r : Reach} {b0 : Nat} {t : TypeId} {f0 : Field} {v : Value} {d : DataW H} {p : List MemPlace} (hs : P.underlying t = some (.struct #[f0])) (hone : oneCellFields P #[f0] = true) (hC : P.cellsOf t = 1)
    (hv : Value.okWide P w r b0 t v) (h : DataW.Trod enc P w 0 sp held t v d p) :
    ∃ (v0 : Value) (y0 : DataW H × List MemPlace) (n : Nat), v = .agg #[v0] ∧ DataW.trod enc P w 0 sp held n f0.type [v0] = some y0 := by
  obtain ⟨cs, rfl, hsz⟩ := okWide_struct hs hv
  obtain ⟨c0, rfl⟩ : ∃ c0, cs = #[c0] := Array.size_eq_one_iff.1 (hsz.trans hC)
  obtain ⟨fuel, hf⟩ := h
  obtain ⟨xs, n, _, _, hl, hlen, hf⟩ := DataW.trod_struct hs hf
  obtain ⟨o0, k0⟩ := hone_of hone 0 f0 rfl
  match xs, hlen with
  | [y0], _ => exact ⟨c0, y0, n, rfl, by simpa [Value.cells, o0, k0] using hf 0 f0 rfl⟩
theorem array5 {α : Type} {cs : Array α} (h : cs.size = 5) : ∃ c0 c1 c2 c3 c4, cs = #[c0, c1, c2, c3, c4] := by
  obtain ⟨l⟩ := cs
  match l, h with
  | [c0, c1, c2, c3, c4], _ => exact ⟨c0, c1, c2, c3, c4, rfl⟩
theorem open_agg5 {r : Reach} {b0 : Nat} {t : TypeId} {f0 f1 f2 f3 f4 : Field} {v : Value} {d : DataW H} {p : List MemPlace} (hs : P.underlying t = some (.struct #[f0, f1, f2, f3, f4])) (hone : oneCellFields P #[f0, f1, f2, f3, f4] = true) (hC : P.cellsOf t = 5)
    (hv : Value.okWide P w r b0 t v) (h : DataW.Trod enc P w 0 sp held t v d p) :
    ∃ (v0 v1 v2 v3 v4 : Value) (y0 y1 y2 y3 y4 : DataW H × List MemPlace) (n : Nat), v = .agg #[v0, v1, v2, v3, v4] ∧
      DataW.trod enc P w 0 sp held n f0.type [v0] = some y0 ∧ DataW.trod enc P w 0 sp held n f1.type [v1] = some y1 ∧ DataW.trod enc P w 0 sp held n f2.type [v2] = some y2 ∧ DataW.trod enc P w 0 sp held n f3.type [v3] = some y3 ∧ DataW.trod enc P w 0 sp held n f4.type [v4] = some y4 := by
  obtain ⟨cs, rfl, hsz⟩ := okWide_struct hs hv
  obtain ⟨c0, c1, c2, c3, c4, rfl⟩ := array5 (hsz.trans hC)
  obtain ⟨fuel, hf⟩ := h
  obtain ⟨xs, n, _, _, hl, hlen, hf⟩ := DataW.trod_struct hs hf
  obtain ⟨o0, k0⟩ := hone_of hone 0 f0 rfl
  obtain ⟨o1, k1⟩ := hone_of hone 1 f1 rfl
  obtain ⟨o2, k2⟩ := hone_of hone 2 f2 rfl
  obtain ⟨o3, k3⟩ := hone_of hone 3 f3 rfl
  obtain ⟨o4, k4⟩ := hone_of hone 4 f4 rfl
  match xs, hlen with
  | [y0, y1, y2, y3, y4], _ => exact ⟨c0, c1, c2, c3, c4, y0, y1, y2, y3, y4, n, rfl, by simpa [Value.cells, o0, k0] using hf 0 f0 rfl, by simpa [Value.cells, o1, k1] using hf 1 f1 rfl, by simpa [Value.cells, o2, k2] using hf 2 f2 rfl, by simpa [Value.cells, o3, k3] using hf 3 f3 rfl, by simpa [Value.cells, o4, k4] using hf 4 f4 rfl⟩
theorem one_of_len {cs : List Value} (h : cs.length = 1) : ∃ u, cs = [u] := by
  match cs, h with
  | [u], _ => exact ⟨u, rfl⟩

theorem elem_int {e : TypeId} (he : P.underlying e = some (.int .i64)) : ∀ (n : Nat) (cs : List Value) (y : DataW H × List MemPlace), cs.length = 1 → DataW.trod enc P w 0 sp held n e cs = some y → ∃ x, cs = cI x ∧ (Lit.int .i64 x).wf = true := by
  intro n cs y _ h
  obtain ⟨x, h1, _, h3⟩ := DataW.trod_int he h
  exact ⟨x, h1, h3⟩
theorem elem_u8 {e : TypeId} (he : P.underlying e = some (.int .u8)) : ∀ (n : Nat) (cs : List Value) (y : DataW H × List MemPlace), cs.length = 1 → DataW.trod enc P w 0 sp held n e cs = some y → ∃ x, cs = cU x ∧ True := by
  intro n cs y _ h
  obtain ⟨x, h1, _⟩ := DataW.trod_int he h
  exact ⟨x, h1, trivial⟩
theorem elem_bool {e : TypeId} (he : P.underlying e = some .bool) : ∀ (n : Nat) (cs : List Value) (y : DataW H × List MemPlace), cs.length = 1 → DataW.trod enc P w 0 sp held n e cs = some y → ∃ x, cs = cB x ∧ True := by
  intro n cs y _ h
  obtain ⟨x, h1, _⟩ := DataW.trod_bool he h
  exact ⟨x, h1, trivial⟩
/-- a field of one cell out of a struct's cells -/
theorem field_of {e : TypeId} {fs : Array Field} {n : Nat} {cs : List Value} {y : DataW H × List MemPlace} (he : P.underlying e = some (.struct fs)) (hone : oneCellFields P fs = true) (hC : P.cellsOf e = fs.size)
    (h : DataW.trod enc P w 0 sp held n e cs = some y) (j : Nat) (f : Field) (hj : fs[j]? = some f) : ∃ (u : Value) (n' : Nat) (y' : DataW H × List MemPlace), cs[j]? = some u ∧ DataW.trod enc P w 0 sp held n' f.type [u] = some y' := by
  obtain ⟨ys, n', _, _, hlen, hyl, hf⟩ := DataW.trod_struct he h
  obtain ⟨ho, hk⟩ := hone_of hone j f hj
  have hjl : j < fs.size := (Array.getElem?_eq_some_iff.1 hj).1
  have h1 := hf j f hj
  rw [ho, hk] at h1
  have hone' : (cs.drop j).take 1 = [cs[j]'(by omega)] := by
    rw [List.drop_eq_getElem_cons (by omega)]
    rfl
  rw [hone'] at h1
  have hys : ys[j]? = some (ys[j]'(by omega)) := List.getElem?_eq_getElem (by omega)
  exact ⟨_, n', _, List.getElem?_eq_getElem (by omega), h1.trans hys⟩
theorem elem_pr {e f : TypeId} {f0 f1 : Field} (he : P.underlying e = some (.struct #[f0, f1])) (hone : oneCellFields P #[f0, f1] = true) (hC : P.cellsOf e = 2) (h0 : P.underlying f0.type = some (.int .i64)) (h1 : P.underlying f1.type = some (.int .i64)) :
    ∀ (n : Nat) (cs : List Value) (y : DataW H × List MemPlace), cs.length = 2 → DataW.trod enc P w 0 sp held n e cs = some y → ∃ x, cs = cPr x ∧ True := by
  intro n cs y hl h
  obtain ⟨u0, n0, y0, g0, k0⟩ := field_of he hone hC h 0 f0 rfl
  obtain ⟨u1, n1, y1, g1, k1⟩ := field_of he hone hC h 1 f1 rfl
  obtain ⟨a, ha, _⟩ := DataW.trod_int h0 k0
  obtain ⟨b, hb, _⟩ := DataW.trod_int h1 k1
  simp only [List.cons.injEq, and_true] at ha hb
  subst ha hb
  match cs, hl with
  | [c0, c1], _ =>
    simp at g0 g1
    subst g0 g1
    exact ⟨(a, b), rfl, trivial⟩
theorem elem_st {e f : TypeId} {f0 f1 : Field} (he : P.underlying e = some (.struct #[f0, f1])) (hone : oneCellFields P #[f0, f1] = true) (hC : P.cellsOf e = 2) (h0 : P.underlying f0.type = some (.int .i64)) (h1 : P.underlying f1.type = some .bool) :
    ∀ (n : Nat) (cs : List Value) (y : DataW H × List MemPlace), cs.length = 2 → DataW.trod enc P w 0 sp held n e cs = some y → ∃ x, cs = cSt x ∧ True := by
  intro n cs y hl h
  obtain ⟨u0, n0, y0, g0, k0⟩ := field_of he hone hC h 0 f0 rfl
  obtain ⟨u1, n1, y1, g1, k1⟩ := field_of he hone hC h 1 f1 rfl
  obtain ⟨a, ha, _⟩ := DataW.trod_int h0 k0
  obtain ⟨b, hb, _⟩ := DataW.trod_bool h1 k1
  simp only [List.cons.injEq, and_true] at ha hb
  subst ha hb
  match cs, hl with
  | [c0, c1], _ =>
    simp at g0 g1
    subst g0 g1
    exact ⟨(a, b), rfl, trivial⟩
theorem elem_ed {e f : TypeId} {f0 f1 f2 f3 : Field} (he : P.underlying e = some (.struct #[f0, f1, f2, f3])) (hone : oneCellFields P #[f0, f1, f2, f3] = true) (hC : P.cellsOf e = 4) (h0 : P.underlying f0.type = some (.int .i64)) (h1 : P.underlying f1.type = some (.int .i64)) (h2 : P.underlying f2.type = some (.int .i64)) (h3 : P.underlying f3.type = some (.int .i64)) :
    ∀ (n : Nat) (cs : List Value) (y : DataW H × List MemPlace), cs.length = 4 → DataW.trod enc P w 0 sp held n e cs = some y → ∃ x, cs = cEd x ∧ True := by
  intro n cs y hl h
  obtain ⟨u0, n0, y0, g0, k0⟩ := field_of he hone hC h 0 f0 rfl
  obtain ⟨u1, n1, y1, g1, k1⟩ := field_of he hone hC h 1 f1 rfl
  obtain ⟨u2, n2, y2, g2, k2⟩ := field_of he hone hC h 2 f2 rfl
  obtain ⟨u3, n3, y3, g3, k3⟩ := field_of he hone hC h 3 f3 rfl
  obtain ⟨a, ha, _⟩ := DataW.trod_int h0 k0
  obtain ⟨b, hb, _⟩ := DataW.trod_int h1 k1
  obtain ⟨c, hc, _⟩ := DataW.trod_int h2 k2
  obtain ⟨d, hd, _⟩ := DataW.trod_int h3 k3
  simp only [List.cons.injEq, and_true] at ha hb hc hd
  subst ha hb hc hd
  match cs, hl with
  | [c0, c1, c2, c3], _ =>
    simp at g0 g1 g2 g3
    subst g0 g1 g2 g3
    exact ⟨(a, b, c, d), rfl, trivial⟩
end

section
variable {H : Type} {enc : TypeId × Value → H} {w : World} {sp : Nat → Bool} {held : Bool} {b0 : Nat} {v : Value} {d : DataW H} {p : List MemPlace}
theorem openBytes (hv : Value.okWide Try.prog w .any b0 36 v) (h : DataW.Trod enc Try.prog w 0 sp held 36 v d p) : ∃ xs : List Int, SlE w cU 1 v xs := by
  obtain ⟨A, n, c, rfl⟩ := okWide_slice Try.underlying36 hv
  obtain ⟨fuel, hf⟩ := h
  obtain ⟨xs, hx, _⟩ := open_list cU 1 (fun _ => True) Try.underlying36 (by kernel_rfl) (by omega) (elem_u8 Try.underlying5) hf
  exact ⟨xs, hx⟩
end
end Go.Proofs.Ythnapjodmndlaaa

/- Plain functions on plain data: nothing of the program. -/
namespace Go.Proofs.Ythnapjodmndlaaa
set_option linter.unusedVariables false
set_option linter.unusedSimpArgs false

theorem exists_least_nat {p : Nat → Prop} (h : ∃ n, p n) : ∃ n, p n ∧ ∀ m, p m → n ≤ m := by
  obtain ⟨n, hn⟩ := h
  induction n using Nat.strongRecOn with
  | _ n ih =>
    by_cases hm : ∃ m, m < n ∧ p m
    · obtain ⟨m, hlt, hp⟩ := hm
      exact ih m hlt hp
    · exact ⟨n, hn, fun m hp => Nat.le_of_not_lt fun hlt => hm ⟨m, hlt, hp⟩⟩

/-- n is in the range a to b -/
def wi (n a b : Int) : Bool := decide (a ≤ n) && decide (n ≤ b)
theorem wi_iff {n a b : Int} : wi n a b = true ↔ a ≤ n ∧ n ≤ b := by simp [wi]
theorem wi_false {n a b : Int} : wi n a b = false ↔ ¬ (a ≤ n ∧ n ≤ b) := by rw [← wi_iff]; simp

/-! ### Automata -/
def rowOk (n : Int) (row : List Int) : Bool := row.all (fun t => wi t (-1) (n - 1)) && (row.length == 9)
def auOk (a : Au) : Bool := wi a.accept.length 1 12 && wi a.start 0 ((a.accept.length : Int) - 1) && (a.next.length == a.accept.length) && a.next.all (rowOk a.accept.length)
theorem auOk_iff {a : Au} : auOk a = true ↔ (1 ≤ a.accept.length ∧ a.accept.length ≤ 12) ∧ (0 ≤ a.start ∧ a.start ≤ (a.accept.length : Int) - 1) ∧ a.next.length = a.accept.length ∧ ∀ row ∈ a.next, rowOk a.accept.length row = true := by
  simp only [auOk, Bool.and_eq_true, wi_iff, beq_iff_eq, List.all_eq_true]
  constructor
  · rintro ⟨⟨⟨h1, h2⟩, h3⟩, h4⟩
    exact ⟨by omega, h2, h3, h4⟩
  · rintro ⟨h1, h2, h3, h4⟩
    exact ⟨⟨⟨by omega, h2⟩, h3⟩, h4⟩
theorem rowOk_iff {n : Int} {row : List Int} : rowOk n row = true ↔ (∀ t ∈ row, -1 ≤ t ∧ t ≤ n - 1) ∧ row.length = 9 := by
  simp only [rowOk, Bool.and_eq_true, List.all_eq_true, wi_iff, beq_iff_eq]

/-! ### Graphs -/
def edOk (n : Int) (e : Ed) : Bool := wi e.1 1 99 && wi e.2.1 0 (n - 1) && wi e.2.2.1 0 (n - 1) && wi e.2.2.2 0 2
/-- edge number i is fine, and its id is above the one before it -/
def edAt (n : Int) (es : List Ed) (i : Nat) : Bool :=
  match es[i]? with
  | none => true
  | some e => edOk n e && (decide (i = 0) || match es[i - 1]? with
    | some p => decide (p.1 < e.1)
    | none => true)
def grOk (g : Gr) : Bool := g.vals.all (fun v => wi v 0 2) && (List.range g.edges.length).all (edAt g.vals.length g.edges) && wi g.vals.length 1 5 && decide (g.edges.length ≤ 12)
theorem edOk_iff {n : Int} {e : Ed} : edOk n e = true ↔ (1 ≤ e.1 ∧ e.1 ≤ 99) ∧ (0 ≤ e.2.1 ∧ e.2.1 ≤ n - 1) ∧ (0 ≤ e.2.2.1 ∧ e.2.2.1 ≤ n - 1) ∧ (0 ≤ e.2.2.2 ∧ e.2.2.2 ≤ 2) := by
  simp only [edOk, Bool.and_eq_true, wi_iff, and_assoc]
structure GrOk (g : Gr) : Prop where
  n1 : 1 ≤ g.vals.length
  n5 : g.vals.length ≤ 5
  e12 : g.edges.length ≤ 12
  vals : ∀ v ∈ g.vals, 0 ≤ v ∧ v ≤ 2
  edges : ∀ e ∈ g.edges, (1 ≤ e.1 ∧ e.1 ≤ 99) ∧ (0 ≤ e.2.1 ∧ e.2.1 ≤ (g.vals.length : Int) - 1) ∧ (0 ≤ e.2.2.1 ∧ e.2.2.1 ≤ (g.vals.length : Int) - 1) ∧ (0 ≤ e.2.2.2 ∧ e.2.2.2 ≤ 2)
  asc : ∀ (i : Nat) (p e : Ed), g.edges[i]? = some p → g.edges[i + 1]? = some e → p.1 < e.1
theorem grOk_iff {g : Gr} : grOk g = true ↔ GrOk g := by
  simp only [grOk, Bool.and_eq_true, decide_eq_true_eq, List.all_eq_true, wi_iff, List.mem_range]
  constructor
  · rintro ⟨⟨⟨h1, h2⟩, h3⟩, h4⟩
    refine ⟨by omega, by omega, h4, h1, fun e he => ?_, fun i p e hp he => ?_⟩
    · obtain ⟨i, hi, hie⟩ := List.getElem_of_mem he
      have := h2 i hi
      rw [edAt, List.getElem?_eq_getElem hi, hie] at this
      simp only [Bool.and_eq_true] at this
      exact edOk_iff.1 this.1
    · have hi := (List.getElem?_eq_some_iff.1 he).1
      have := h2 (i + 1) hi
      rw [edAt, he] at this
      simp only [Bool.and_eq_true, Nat.add_sub_cancel, hp, Bool.or_eq_true, decide_eq_true_eq] at this
      rcases this.2 with h | h
      · omega
      · exact h
  · rintro ⟨h1, h2, h3, h4, h5, h6⟩
    refine ⟨⟨⟨h4, fun i hi => ?_⟩, by omega⟩, h3⟩
    rw [edAt, List.getElem?_eq_getElem hi]
    simp only [Bool.and_eq_true, Bool.or_eq_true, decide_eq_true_eq]
    refine ⟨edOk_iff.2 (h5 _ (List.getElem_mem hi)), ?_⟩
    by_cases h0 : i = 0
    · exact .inl h0
    · refine .inr ?_
      have hp : g.edges[i - 1]? = some g.edges[i - 1] := List.getElem?_eq_getElem (by omega)
      rw [hp]
      simp only [decide_eq_true_eq]
      exact h6 (i - 1) _ _ hp (by rw [show i - 1 + 1 = i by omega, List.getElem?_eq_getElem hi])
theorem range_all_succ {p : Nat → Bool} {i : Nat} (h : (List.range i).all p = true) (hp : p i = true) : (List.range (i + 1)).all p = true := by
  rw [List.range_succ, List.all_append, h]
  simp [hp]
theorem range_all_false {p : Nat → Bool} {n i : Nat} (hi : i < n) (hp : p i = false) : (List.range n).all p = false := by
  rw [List.all_eq_false]
  exact ⟨i, List.mem_range.2 hi, by simp [hp]⟩
/-- the place of the first edge with an id, -1 if there is none -/
def edgeIdx (g : Gr) (id : Int) : Int := match g.edges.findIdx? (fun e => e.1 == id) with
  | some i => i
  | none => -1

theorem edgeIdx_none {g : Gr} {id : Int} (h : ∀ e : Ed, e ∈ g.edges → ¬ e.1 = id) : edgeIdx g id = -1 := by
  have : g.edges.findIdx? (fun e => e.1 == id) = none := by
    rw [List.findIdx?_eq_none_iff]
    intro e he
    simpa using h e he
  rw [edgeIdx, this]
theorem edgeIdx_some {g : Gr} {id : Int} {i : Nat} {e : Ed} (hi : g.edges[i]? = some e) (he : e.1 = id) (h : ∀ y : Ed, y ∈ g.edges.take i → ¬ y.1 = id) : edgeIdx g id = i := by
  have : g.edges.findIdx? (fun e => e.1 == id) = some i := by
    rw [List.findIdx?_eq_some_iff_getElem]
    obtain ⟨hlt, hx⟩ := List.getElem?_eq_some_iff.1 hi
    refine ⟨hlt, by rw [hx]; simpa using he, fun j hj => ?_⟩
    have hm : g.edges[j] ∈ g.edges.take i := by
      rw [List.mem_take_iff_getElem]
      exact ⟨j, by omega, rfl⟩
    simpa using h _ hm
  rw [edgeIdx, this]
theorem edgeIdx_spec (g : Gr) (id : Int) : (edgeIdx g id = -1 ∧ ∀ e ∈ g.edges, ¬ e.1 = id) ∨ ∃ (i : Nat) (e : Ed), edgeIdx g id = i ∧ g.edges[i]? = some e ∧ e.1 = id ∧ ∀ y : Ed, y ∈ g.edges.take i → ¬ y.1 = id := by
  by_cases h : ∃ e ∈ g.edges, e.1 = id
  · right
    have hex : ∃ i : Nat, ∃ e : Ed, g.edges[i]? = some e ∧ e.1 = id := by
      obtain ⟨e, he, hid⟩ := h
      obtain ⟨i, hi, hie⟩ := List.getElem_of_mem he
      exact ⟨i, e, by rw [List.getElem?_eq_getElem hi, hie], hid⟩
    obtain ⟨i, ⟨e, he, hid⟩, hmin⟩ := exists_least_nat hex
    have hno : ∀ y : Ed, y ∈ g.edges.take i → ¬ y.1 = id := by
      intro y hy hyid
      rw [List.mem_take_iff_getElem] at hy
      obtain ⟨j, hj, hje⟩ := hy
      have := hmin j ⟨y, by rw [List.getElem?_eq_getElem (by omega), hje], hyid⟩
      omega
    exact ⟨i, e, edgeIdx_some he hid hno, he, hid, hno⟩
  · left
    have h2 : ∀ e ∈ g.edges, ¬ e.1 = id := fun e he hid => h ⟨e, he, hid⟩
    exact ⟨edgeIdx_none h2, h2⟩

/-- the edge with an id, of a valid graph -/
def stepEd (g : Gr) (id : Int) : Option Ed := if grOk g then g.edges.find? (fun e => e.1 == id) else none
theorem stepEd_bad {g : Gr} (id : Int) (h : grOk g = false) : stepEd g id = none := by simp [stepEd, h]
theorem stepEd_none {g : Gr} {id : Int} (h : ∀ e : Ed, e ∈ g.edges → ¬ e.1 = id) : stepEd g id = none := by
  unfold stepEd
  split
  · rw [List.find?_eq_none]
    intro e he
    simpa using h e he
  · rfl
theorem stepEd_some {g : Gr} {id : Int} {i : Nat} {e : Ed} (hg : grOk g = true) (hi : g.edges[i]? = some e) (he : e.1 = id) (h : ∀ y : Ed, y ∈ g.edges.take i → ¬ y.1 = id) : stepEd g id = some e := by
  rw [stepEd, if_pos hg, List.find?_eq_some_iff_getElem]
  obtain ⟨hlt, hx⟩ := List.getElem?_eq_some_iff.1 hi
  refine ⟨by simpa using he, i, hlt, hx, fun j hj => ?_⟩
  have hm : g.edges[j] ∈ g.edges.take i := by
    rw [List.mem_take_iff_getElem]
    exact ⟨j, by omega, rfl⟩
  simpa using h _ hm
theorem stepEd_ok {g : Gr} {id : Int} {e : Ed} (h : stepEd g id = some e) : GrOk g ∧ e ∈ g.edges ∧ e.1 = id := by
  unfold stepEd at h
  split at h
  · rename_i hg
    exact ⟨grOk_iff.1 hg, List.mem_of_find?_eq_some h, by simpa using List.find?_some h⟩
  · cases h
def stepFrom (g : Gr) (s : St) : Int := match stepEd g s.1 with
  | none => -1
  | some e => if s.2 then e.2.2.1 else e.2.1
def stepTo (g : Gr) (s : St) : Int := stepFrom g (s.1, !s.2)
def stepLetter (g : Gr) (s : St) : Int := match stepEd g s.1 with
  | none => -1
  | some e => if s.2 then 2 * e.2.2.2 + 1 else 2 * e.2.2.2
theorem stepFrom_range (g : Gr) (s : St) : stepFrom g s = -1 ∨ (0 ≤ stepFrom g s ∧ stepFrom g s ≤ (g.vals.length : Int) - 1 ∧ GrOk g) := by
  unfold stepFrom
  cases h : stepEd g s.1 with
  | none => exact .inl rfl
  | some e =>
    obtain ⟨hg, he, _⟩ := stepEd_ok h
    have := hg.edges e he
    refine .inr ?_
    simp only
    split
    · exact ⟨this.2.2.1.1, this.2.2.1.2, hg⟩
    · exact ⟨this.2.1.1, this.2.1.2, hg⟩
theorem stepFrom_neg {g : Gr} {s : St} : stepFrom g s < 0 ↔ stepEd g s.1 = none := by
  constructor
  · intro h
    cases he : stepEd g s.1 with
    | none => rfl
    | some e =>
      exfalso
      rcases stepFrom_range g s with h1 | h1
      · obtain ⟨hg, hm, _⟩ := stepEd_ok he
        have := hg.edges e hm
        rw [stepFrom, he] at h1
        simp only at h1
        split at h1 <;> omega
      · omega
  · intro h
    rw [stepFrom, h]
    simp
/-- whether a condition holds of two values -/
def condOk (c v w : Int) : Bool := if c = 0 then true else if c = 1 then v == w else if c = 2 then decide (v ≤ w) else if c = 3 then decide (v < w) else if c = 4 then v != w else false
def stepAllowed (g : Gr) (c : Int) (s : St) : Bool :=
  decide (0 ≤ stepFrom g s) && condOk c (g.vals.getD (stepFrom g s).toNat 0) (g.vals.getD (stepTo g s).toNat 0)

theorem all_take_succ {α : Type} {p : α → Bool} {xs : List α} {i : Nat} {x : α} (hx : xs[i]? = some x) (h : (xs.take i).all p = true) (hp : p x = true) : (xs.take (i + 1)).all p = true := by
  rw [take_snoc hx, List.all_append, h]
  simp [hp]
theorem all_false_of {α : Type} {p : α → Bool} {xs : List α} {i : Nat} {x : α} (hx : xs[i]? = some x) (hp : p x = false) : xs.all p = false := by
  rw [List.all_eq_false]
  exact ⟨x, List.mem_of_getElem? hx, by simp [hp]⟩
end Go.Proofs.Ythnapjodmndlaaa

/- Plain: sets of states as numbers, the steps of the product of a graph and an automaton, distances by breadth first search. -/
namespace Go.Proofs.Ythnapjodmndlaaa
set_option linter.unusedVariables false
set_option linter.unusedSimpArgs false

/-! ### Numbers as sets -/
def mem (n m : Nat) : List Nat := (List.range n).filter m.testBit
theorem mem_zero (m : Nat) : mem 0 m = [] := rfl
theorem mem_succ (n m : Nat) : mem (n + 1) m = mem n m ++ (if m.testBit n = true then [n] else []) := by
  unfold mem
  rw [List.range_succ, List.filter_append]
  congr 1
  cases h : m.testBit n <;> simp [h]
theorem mem_yes {n m : Nat} (h : m.testBit n = true) : mem (n + 1) m = mem n m ++ [n] := by rw [mem_succ, if_pos h]
theorem mem_no {n m : Nat} (h : m.testBit n = false) : mem (n + 1) m = mem n m := by rw [mem_succ, if_neg (by simp [h]), List.append_nil]
theorem mem_mem {n m t : Nat} : t ∈ mem n m ↔ t < n ∧ m.testBit t = true := by simp [mem]
theorem mem_stop {i n m : Nat} (h : m < 2 ^ i) (hn : i ≤ n) : mem n m = mem i m := by
  induction n with
  | zero =>
    have : i = 0 := by omega
    subst this; rfl
  | succ n ih =>
    by_cases h1 : i ≤ n
    · rw [mem_no (Nat.testBit_lt_two_pow (Nat.lt_of_lt_of_le h (Nat.pow_le_pow_right (by omega) h1))), ih h1]
    · have : i = n + 1 := by omega
      subst this; rfl
theorem mem_len (n m : Nat) : (mem n m).length ≤ n := by
  have := List.length_filter_le m.testBit (List.range n)
  rw [List.length_range] at this
  exact this
/-- {s}, and m with s put in: plain names, so that a walk leaves them alone -/
def bit (s : Nat) : Nat := 2 ^ s
def ins (m s : Nat) : Nat := m ||| 2 ^ s
theorem bit_test (s t : Nat) : (bit s).testBit t = decide (s = t) := by rw [bit, Nat.testBit_two_pow]
theorem ins_test (m s t : Nat) : (ins m s).testBit t = (m.testBit t || decide (s = t)) := by rw [ins, Nat.testBit_or, Nat.testBit_two_pow]
theorem ins_zero (s : Nat) : ins 0 s = bit s := by simp [ins, bit]
theorem bit_lt {n s : Nat} (h : s < n) : bit s < 2 ^ n := Nat.pow_lt_pow_right (by omega) h
theorem mem_pow_ge {n s : Nat} (h : n ≤ s) : mem n (bit s) = [] := by
  induction n with
  | zero => rfl
  | succ n ih => rw [mem_no (by rw [bit_test]; simp; omega), ih (by omega)]
theorem mem_pow {n s : Nat} (h : s < n) : mem n (bit s) = [s] := by
  induction n with
  | zero => omega
  | succ n ih =>
    by_cases hs : s = n
    · subst hs
      rw [mem_yes (by rw [bit_test]; simp), mem_pow_ge (Nat.le_refl _)]; rfl
    · rw [mem_no (by rw [bit_test]; simp; omega), ih (by omega)]
theorem mem_or_ge {n m t : Nat} (h : n ≤ t) : mem n (ins m t) = mem n m := by
  unfold mem
  apply List.filter_congr
  intro x hx
  have := List.mem_range.1 hx
  rw [ins_test]
  have h2 : ¬ t = x := by omega
  simp [h2]
theorem cnt_or {n m t : Nat} (ht : t < n) (hm : m.testBit t = false) : (mem n (ins m t)).length = (mem n m).length + 1 := by
  induction n with
  | zero => omega
  | succ n ih =>
    by_cases h : t = n
    · subst h
      rw [mem_yes (by rw [ins_test]; simp), mem_no hm, mem_or_ge (Nat.le_refl _)]
      simp
    · have := ih (by omega)
      have hb : (ins m t).testBit n = m.testBit n := by
        rw [ins_test]
        simp [h]
      cases hn : m.testBit n with
      | false => rw [mem_no (by rw [hb, hn]), mem_no hn, this]
      | true => rw [mem_yes (by rw [hb, hn]), mem_yes hn, List.length_append, List.length_append, this]; rfl
theorem ins_lt {n m t : Nat} (hm : m < 2 ^ n) (ht : t < n) : ins m t < 2 ^ n := Nat.or_lt_two_pow hm (Nat.pow_lt_pow_right (by omega) ht)
theorem foldl_inv {α β : Type} {P : α → Prop} {f : α → β → α} (h : ∀ m x, P m → P (f m x)) : ∀ (l : List β) (m : α), P m → P (l.foldl f m)
  | [], _, hm => hm
  | x :: l, m, hm => foldl_inv h l (f m x) (h m x hm)

theorem foldl_take {α β : Type} {f : α → β → α} {xs : List β} {i : Nat} {x : β} (h : xs[i]? = some x) (z : α) : (xs.take (i + 1)).foldl f z = f ((xs.take i).foldl f z) x := by
  rw [take_snoc h, List.foldl_append]; rfl

/-! ### Steps of the automaton -/
def mv (a : Au) (s l : Nat) : Int := (a.next.getD s []).getD l (-1)
theorem mv_of {a : Au} {s l : Nat} {row : List Int} {t : Int} (hr : a.next[s]? = some row) (ht : row[l]? = some t) : mv a s l = t := by
  simp [mv, List.getD, hr, ht]
theorem mv_lt {a : Au} (h : auOk a = true) (s l : Nat) : -1 ≤ mv a s l ∧ mv a s l ≤ (a.accept.length : Int) - 1 := by
  obtain ⟨⟨h1, _⟩, _, _, hr⟩ := auOk_iff.1 h
  unfold mv
  cases hs : a.next[s]? with
  | none => simp [List.getD, hs]; omega
  | some row =>
    obtain ⟨hrow, _⟩ := rowOk_iff.1 (hr row (List.mem_of_getElem? hs))
    cases ht : row[l]? with
    | none => simp [List.getD, hs, ht]; omega
    | some t =>
      simp only [List.getD, hs, ht, Option.getD_some]
      exact hrow t (List.mem_of_getElem? ht)
/-- what the loop 'while s is a state that is not in the set' gathers -/
def clsF (a : Au) (l : Nat) : Nat → Int → Nat → Nat
  | 0, _, m => m
  | f + 1, s, m => if 0 ≤ s ∧ m.testBit s.toNat = false then clsF a l f (mv a s.toNat l) (ins m s.toNat) else m
def cls (a : Au) (v s : Nat) : Nat := clsF a (6 + v) 13 s 0
theorem clsF_lt {a : Au} (h : auOk a = true) (l : Nat) : ∀ (f : Nat) (s : Int) (m : Nat), s < (a.accept.length : Int) → m < 2 ^ a.accept.length → clsF a l f s m < 2 ^ a.accept.length := by
  intro f
  induction f with
  | zero => intro s m _ hm; exact hm
  | succ f ih =>
    intro s m hs hm
    rw [clsF]
    split
    · rename_i hc
      exact ih _ _ (by have := (mv_lt h s.toNat l).2; omega) (ins_lt hm (by omega))
    · exact hm
theorem cls_lt {a : Au} (h : auOk a = true) (v s : Nat) (hs : s < a.accept.length) : cls a v s < 2 ^ a.accept.length := clsF_lt h _ _ _ _ (by omega) (Nat.two_pow_pos _)
theorem clsF_stop {a : Au} {l : Nat} {f : Nat} {s : Int} {m : Nat} (h : s < 0 ∨ m.testBit s.toNat = true) : clsF a l f s m = m := by
  cases f with
  | zero => rfl
  | succ f =>
    rw [clsF, if_neg]
    rintro ⟨h1, h2⟩
    rcases h with h | h
    · omega
    · rw [h] at h2; cases h2
theorem clsF_go {a : Au} {l : Nat} {f s : Nat} {m : Nat} (h : m.testBit s = false) : clsF a l (f + 1) s m = clsF a l f (mv a s l) (ins m s) := by
  rw [clsF, if_pos ⟨by omega, by simpa using h⟩]
  simp

def aft1 (a : Au) (l : Nat) (m t : Nat) : Nat := if 0 ≤ mv a t l then ins m (mv a t l).toNat else m
def aftS (a : Au) (v l : Nat) (m s : Nat) : Nat := (mem 12 (cls a v s)).foldl (aft1 a l) m
def aft (a : Au) (set v l : Nat) : Nat := (mem 12 set).foldl (aftS a v l) 0
theorem aft1_lt {a : Au} (h : auOk a = true) (l m t : Nat) (hm : m < 2 ^ a.accept.length) : aft1 a l m t < 2 ^ a.accept.length := by
  unfold aft1
  split
  · have := (mv_lt h t l).2
    exact ins_lt hm (by omega)
  · exact hm
theorem aftS_lt {a : Au} (h : auOk a = true) (v l m s : Nat) (hm : m < 2 ^ a.accept.length) : aftS a v l m s < 2 ^ a.accept.length :=
  foldl_inv (P := fun m => m < 2 ^ a.accept.length) (fun m x hm => aft1_lt h l m x hm) _ _ hm
theorem aft_lt {a : Au} (h : auOk a = true) (set v l : Nat) : aft a set v l < 2 ^ a.accept.length :=
  foldl_inv (P := fun m => m < 2 ^ a.accept.length) (fun m x hm => aftS_lt h v l m x hm) _ _ (Nat.two_pow_pos _)
theorem lt12 {a : Au} (h : auOk a = true) {m : Nat} (hm : m < 2 ^ a.accept.length) : m < 4096 := by
  have h1 : a.accept.length ≤ 12 := (auOk_iff.1 h).1.2
  exact Nat.lt_of_lt_of_le hm (Nat.pow_le_pow_right (by omega) h1 : 2 ^ a.accept.length ≤ 2 ^ 12)
theorem mem12 {a : Au} (h : auOk a = true) {m : Nat} (hm : m < 2 ^ a.accept.length) : mem 12 m = mem a.accept.length m := mem_stop hm (auOk_iff.1 h).1.2
theorem aft_one {a : Au} (v l : Nat) {s : Nat} (hs : s < 12) : aft a (bit s) v l = (mem 12 (cls a v s)).foldl (aft1 a l) 0 := by
  rw [aft, mem_pow hs]; rfl

def accC (a : Au) (v s : Nat) : Bool := (mem 12 (cls a v s)).any fun t => a.accept.getD t false
def acc (a : Au) (set v : Nat) : Bool := (mem 12 set).any (accC a v)
theorem acc_one (a : Au) (v : Nat) {s : Nat} (hs : s < 12) : acc a (bit s) v = accC a v s := by rw [acc, mem_pow hs]; simp

/-! ### Steps of the graph -/
abbrev Arc := St × Int × Int
def arcE (x : Int) (e : Ed) : List Arc := (if e.2.1 = x then [((e.1, false), 2 * e.2.2.2, e.2.2.1)] else []) ++ (if e.2.2.1 = x then [((e.1, true), 2 * e.2.2.2 + 1, e.2.1)] else [])
def arcsOf (g : Gr) (x : Int) : List Arc := g.edges.flatMap (arcE x)
theorem flat_take {α β : Type} {f : α → List β} {xs : List α} {i : Nat} {x : α} (h : xs[i]? = some x) : (xs.take (i + 1)).flatMap f = (xs.take i).flatMap f ++ f x := by
  rw [take_snoc h, List.flatMap_append]; simp
theorem mem_arcE {x : Int} {e : Ed} {y : Arc} : y ∈ arcE x e ↔ (e.2.1 = x ∧ y = ((e.1, false), 2 * e.2.2.2, e.2.2.1)) ∨ (e.2.2.1 = x ∧ y = ((e.1, true), 2 * e.2.2.2 + 1, e.2.1)) := by
  unfold arcE
  rw [List.mem_append]
  by_cases h1 : e.2.1 = x <;> by_cases h2 : e.2.2.1 = x <;> simp [h1, h2]
theorem ids_lt {g : Gr} (hg : GrOk g) : ∀ (k i : Nat) (p e : Ed), g.edges[i]? = some p → g.edges[i + 1 + k]? = some e → p.1 < e.1 := by
  intro k
  induction k with
  | zero => intro i p e hp he; exact hg.asc i p e hp he
  | succ k ih =>
    intro i p e hp he
    have hlt := (List.getElem?_eq_some_iff.1 he).1
    have hq : g.edges[i + 1 + k]? = some g.edges[i + 1 + k] := List.getElem?_eq_getElem (by omega)
    exact Int.lt_trans (ih i p _ hp hq) (hg.asc _ _ _ hq he)
theorem edgeIdx_at {g : Gr} (hg : GrOk g) {i : Nat} {e : Ed} (he : g.edges[i]? = some e) : edgeIdx g e.1 = i := by
  refine edgeIdx_some he rfl fun y hy hye => ?_
  obtain ⟨j, hj, hjy⟩ := List.getElem_of_mem hy
  rw [List.length_take] at hj
  rw [List.getElem_take] at hjy
  have hj' : g.edges[j]? = some y := by rw [← hjy]; exact List.getElem?_eq_getElem (by omega)
  have := ids_lt hg (i - j - 1) j y e hj' (by rw [show j + 1 + (i - j - 1) = i by omega]; exact he)
  omega
def arcLetter (b : Bool) (e : Ed) : Int := if b then 2 * e.2.2.2 + 1 else 2 * e.2.2.2
def arcTo (b : Bool) (e : Ed) : Int := if b then e.2.1 else e.2.2.1
theorem arc_edge {g : Gr} (hg : GrOk g) {x : Int} {y : Arc} (hy : y ∈ arcsOf g x) :
    ∃ (i : Nat) (e : Ed), edgeIdx g y.1.1 = i ∧ g.edges[i]? = some e ∧ y.2.1 = arcLetter y.1.2 e ∧ y.2.2 = arcTo y.1.2 e ∧ e.1 = y.1.1 ∧ e ∈ g.edges := by
  obtain ⟨e, he, hye⟩ := List.mem_flatMap.1 hy
  obtain ⟨i, hi, hie⟩ := List.getElem_of_mem he
  have hi' : g.edges[i]? = some e := by rw [← hie]; exact List.getElem?_eq_getElem hi
  have hx := edgeIdx_at hg hi'
  rcases mem_arcE.1 hye with ⟨_, rfl⟩ | ⟨_, rfl⟩
  · exact ⟨i, e, hx, hi', rfl, rfl, rfl, he⟩
  · exact ⟨i, e, hx, hi', rfl, rfl, rfl, he⟩
theorem arc_range {g : Gr} (hg : GrOk g) {x : Int} {y : Arc} (hy : y ∈ arcsOf g x) : (0 ≤ y.2.1 ∧ y.2.1 ≤ 5) ∧ 0 ≤ y.2.2 ∧ y.2.2 ≤ (g.vals.length : Int) - 1 := by
  obtain ⟨i, e, _, _, h1, h2, _, he⟩ := arc_edge hg hy
  obtain ⟨_, h3, h4, h5⟩ := hg.edges e he
  rw [h1, h2]
  unfold arcLetter arcTo
  split <;> omega
theorem arcE_len (x : Int) (e : Ed) : (arcE x e).length ≤ 2 := by
  unfold arcE
  rw [List.length_append]
  split <;> split <;> simp
theorem flat_len {α β : Type} {f : α → List β} {k : Nat} (h : ∀ x, (f x).length ≤ k) : ∀ xs : List α, (xs.flatMap f).length ≤ xs.length * k
  | [] => by simp
  | x :: xs => by
    have := flat_len h xs
    rw [List.flatMap_cons, List.length_append, List.length_cons, Nat.succ_mul]
    have := h x
    omega
theorem arcs_len {g : Gr} (hg : GrOk g) (x : Int) : (arcsOf g x).length ≤ 24 := by
  have := flat_len (arcE_len x) g.edges
  have := hg.e12
  unfold arcsOf
  omega

/-! ### Vertices: node * n + state -/
def valAt (g : Gr) (x : Nat) : Nat := (g.vals.getD x 0).toNat
theorem valAt_of {g : Gr} {x : Nat} {v : Int} (h : g.vals[x]? = some v) : valAt g x = v.toNat := by simp [valAt, List.getD, h]
theorem valAt_lt {g : Gr} (hg : GrOk g) (x : Nat) : valAt g x ≤ 2 := by
  unfold valAt
  cases h : g.vals[x]? with
  | none => simp [List.getD, h]
  | some v =>
    have := hg.vals v (List.mem_of_getElem? h)
    simp only [List.getD, h, Option.getD_some]
    omega
/-- the vertices behind vertex (x, s) by one arc -/
def nextA (g : Gr) (a : Au) (x s : Nat) (y : Arc) : List Nat := (mem 12 (aft a (bit s) (valAt g x) y.2.1.toNat)).map fun t => y.2.2.toNat * a.accept.length + t
def nextV (g : Gr) (a : Au) (x s : Nat) : List Nat := (arcsOf g (x : Int)).flatMap (nextA g a x s)
def nextI (g : Gr) (a : Au) (i : Nat) : List Nat := nextV g a (i / a.accept.length) (i % a.accept.length)
theorem nextV_lt {g : Gr} {a : Au} (hg : GrOk g) (ha : auOk a = true) {x s k : Nat} (h : k ∈ nextV g a x s) : k < g.vals.length * a.accept.length := by
  obtain ⟨y, hy, hk⟩ := List.mem_flatMap.1 h
  obtain ⟨t, ht, rfl⟩ := List.mem_map.1 hk
  have h1 := (arc_range hg hy).2
  have h2 := aft_lt ha (bit s) (valAt g x) y.2.1.toNat
  rw [mem12 ha h2, mem_mem] at ht
  have h3 : y.2.2.toNat + 1 ≤ g.vals.length := by omega
  have h4 := Nat.mul_le_mul_right a.accept.length h3
  rw [Nat.succ_mul] at h4
  omega
theorem nextV_len {g : Gr} {a : Au} (hg : GrOk g) (x s : Nat) : (nextV g a x s).length ≤ 288 := by
  have h1 : ∀ y, (nextA g a x s y).length ≤ 12 := fun y => by rw [nextA, List.length_map]; exact mem_len _ _
  have h2 := flat_len h1 (arcsOf g (x : Int))
  have h3 := arcs_len hg (x : Int)
  unfold nextV
  omega

/-! ### Breadth first search -/
def relax (d : Int) : List Nat → List Int → List Nat → List Int × List Nat
  | [], D, q => (D, q)
  | k :: l, D, q => if D.getD k 0 < 0 then relax d l (D.set k d) (q ++ [k]) else relax d l D q
def bfs (next : Nat → List Nat) : Nat → List Int → List Nat → List Int
  | 0, D, _ => D
  | _ + 1, D, [] => D
  | f + 1, D, h :: q => bfs next f (relax (D.getD h 0 + 1) (next h) D q).1 (relax (D.getD h 0 + 1) (next h) D q).2
def negs (D : List Int) : Nat := D.countP (fun x => decide (x < 0))
theorem negs_set {D : List Int} {k : Nat} {d : Int} (hk : k < D.length) (hn : D.getD k 0 < 0) (hd : 0 ≤ d) : negs (D.set k d) + 1 = negs D := by
  induction D generalizing k with
  | nil => simp at hk
  | cons x D ih =>
    cases k with
    | zero =>
      simp only [List.getD_cons_zero] at hn
      have : ¬ d < 0 := by omega
      simp [negs, List.countP_cons, hn, this]
    | succ k =>
      have := ih (k := k) (by simpa using hk) (by simpa using hn)
      simp only [negs, List.set_cons_succ, List.countP_cons] at this ⊢
      omega
/-- what holds of distances D and a queue q, with f rounds left of F -/
structure BfsI (N F f : Nat) (D : List Int) (q : List Nat) : Prop where
  len : D.length = N
  queue : ∀ h ∈ q, h < N ∧ 0 ≤ D.getD h 0
  fuel : q.length + negs D ≤ f
  top : ∀ h, D.getD h 0 + (f : Int) ≤ F
  low : ∀ h, -1 ≤ D.getD h 0
  fF : f ≤ F
theorem getD_set' {D : List Int} {k h : Nat} {d : Int} (hk : k < D.length) : (D.set k d).getD h 0 = if h = k then d else D.getD h 0 := by
  simp only [List.getD, List.getElem?_set]
  by_cases hh : h = k
  · subst hh; simp [hk]
  · simp [hh, Ne.symm hh]
theorem BfsI.new {N F f : Nat} {D : List Int} {q : List Nat} {k : Nat} {d : Int} (h : BfsI N F f D q) (hk : k < N) (hn : D.getD k 0 < 0) (hd : 0 ≤ d) (hdF : d + (f : Int) ≤ F) : BfsI N F f (D.set k d) (q ++ [k]) := by
  have hkl : k < D.length := by rw [h.len]; exact hk
  refine ⟨by rw [List.length_set]; exact h.len, fun x hx => ?_, ?_, fun x => ?_, fun x => ?_, h.fF⟩
  · rw [getD_set' hkl]
    rcases List.mem_append.1 hx with hx | hx
    · have := h.queue x hx
      split
      · exact ⟨this.1, hd⟩
      · exact this
    · have : x = k := by simpa using hx
      subst this
      simp [hk, hd]
  · have := negs_set hkl hn hd
    have := h.fuel
    rw [List.length_append, List.length_singleton]
    omega
  · rw [getD_set' hkl]
    have := h.top x
    split <;> omega
  · rw [getD_set' hkl]
    have := h.low x
    split <;> omega
theorem BfsI.pop {N F f : Nat} {D : List Int} {q : List Nat} {k : Nat} (h : BfsI N F (f + 1) D (k :: q)) : BfsI N F f D q :=
  ⟨h.len, fun x hx => h.queue x (List.mem_cons_of_mem _ hx), by have := h.fuel; rw [List.length_cons] at this; omega, fun x => by have := h.top x; omega, h.low, by have := h.fF; omega⟩
theorem bfs_nil (next : Nat → List Nat) (f : Nat) (D : List Int) : bfs next f D [] = D := by cases f <;> rfl
theorem bfs_len (next : Nat → List Nat) : ∀ (f : Nat) (D : List Int) (q : List Nat), (bfs next f D q).length = D.length := by
  have hr : ∀ (d : Int) (l : List Nat) (D : List Int) (q : List Nat), (relax d l D q).1.length = D.length := by
    intro d l
    induction l with
    | nil => intro D q; rfl
    | cons k l ih =>
      intro D q
      rw [relax]
      split
      · rw [ih, List.length_set]
      · exact ih _ _
  intro f
  induction f with
  | zero => intro D q; rfl
  | succ f ih =>
    intro D q
    cases q with
    | nil => rfl
    | cons h q => rw [bfs, ih, hr]
end Go.Proofs.Ythnapjodmndlaaa

/- Plain: breadth first search finds the least number of steps to a goal. -/
namespace Go.Proofs.Ythnapjodmndlaaa
set_option linter.unusedVariables false
set_option linter.unusedSimpArgs false

/-- a goal is n steps away from i -/
def toG (next : Nat → List Nat) (goal : Nat → Prop) : Nat → Nat → Prop
  | 0, i => goal i
  | n + 1, i => ∃ k ∈ next i, toG next goal n k
def IsDist (next : Nat → List Nat) (goal : Nat → Prop) (i : Nat) (d : Int) : Prop :=
  (d = -1 ∧ ∀ n, ¬ toG next goal n i) ∨ (0 ≤ d ∧ toG next goal d.toNat i ∧ ∀ m : Nat, m < d.toNat → ¬ toG next goal m i)
theorem IsDist.uniq {next : Nat → List Nat} {goal : Nat → Prop} {i : Nat} {d e : Int} (h : IsDist next goal i d) (k : IsDist next goal i e) : d = e := by
  rcases h with ⟨rfl, h⟩ | ⟨h0, h1, h2⟩
  · rcases k with ⟨rfl, _⟩ | ⟨_, k1, _⟩
    · rfl
    · exact absurd k1 (h _)
  · rcases k with ⟨rfl, k⟩ | ⟨k0, k1, k2⟩
    · exact absurd h1 (k _)
    · rcases Nat.lt_trichotomy d.toNat e.toNat with hlt | heq | hgt
      · exact absurd h1 (k2 _ hlt)
      · omega
      · exact absurd k1 (h2 _ hgt)

section
variable {prev next : Nat → List Nat} {goal : Nat → Prop} {N : Nat} {D : List Int} {q : List Nat}
structure BO (prev next : Nat → List Nat) (goal : Nat → Prop) (N : Nat) (D : List Int) (q : List Nat) : Prop where
  len : D.length = N
  sound : ∀ i, i < N → 0 ≤ D.getD i 0 → toG next goal (D.getD i 0).toNat i
  src : ∀ i, i < N → goal i → D.getD i 0 = 0
  done : ∀ k, k < N → 0 ≤ D.getD k 0 → k ∉ q → ∀ i ∈ prev k, 0 ≤ D.getD i 0 ∧ D.getD i 0 ≤ D.getD k 0 + 1
  top : ∀ h r, q = h :: r → ∀ i, i < N → D.getD i 0 ≤ D.getD h 0 + 1
  sorted : q.Pairwise (fun a b => D.getD a 0 ≤ D.getD b 0)
  qN : ∀ x ∈ q, x < N ∧ 0 ≤ D.getD x 0
  low : ∀ i, i < N → -1 ≤ D.getD i 0
structure BI (prev next : Nat → List Nat) (goal : Nat → Prop) (N : Nat) (D : List Int) (q : List Nat) (h : Nat) (l : List Nat) : Prop where
  len : D.length = N
  hN : h < N
  hD : 0 ≤ D.getD h 0
  sound : ∀ i, i < N → 0 ≤ D.getD i 0 → toG next goal (D.getD i 0).toNat i
  src : ∀ i, i < N → goal i → D.getD i 0 = 0
  done : ∀ k, k < N → 0 ≤ D.getD k 0 → k ∉ q → k ≠ h → ∀ i ∈ prev k, 0 ≤ D.getD i 0 ∧ D.getD i 0 ≤ D.getD k 0 + 1
  here : ∀ i ∈ prev h, i ∈ l ∨ (0 ≤ D.getD i 0 ∧ D.getD i 0 ≤ D.getD h 0 + 1)
  top : ∀ i, i < N → D.getD i 0 ≤ D.getD h 0 + 1
  qs : ∀ x ∈ q, D.getD h 0 ≤ D.getD x 0
  sorted : q.Pairwise (fun a b => D.getD a 0 ≤ D.getD b 0)
  qN : ∀ x ∈ q, x < N ∧ 0 ≤ D.getD x 0
  low : ∀ i, i < N → -1 ≤ D.getD i 0

theorem BO.enter {h : Nat} (b : BO prev next goal N D (h :: q)) : BI prev next goal N D q h (prev h) :=
  ⟨b.len, (b.qN h (by simp)).1, (b.qN h (by simp)).2, b.sound, b.src, fun k hk h0 hq hh => b.done k hk h0 (by simp [hq, hh]), fun i hi => .inl hi, b.top h q rfl,
    fun x hx => (List.pairwise_cons.1 b.sorted).1 x hx, (List.pairwise_cons.1 b.sorted).2, fun x hx => b.qN x (List.mem_cons_of_mem _ hx), b.low⟩
theorem BI.leave {h : Nat} (b : BI prev next goal N D q h []) : BO prev next goal N D q := by
  refine ⟨b.len, b.sound, b.src, fun k hk h0 hq => ?_, fun x r hx i hi => ?_, b.sorted, b.qN, b.low⟩
  · by_cases hkh : k = h
    · subst hkh
      intro i hi
      rcases b.here i hi with h | h
      · simp at h
      · exact h
    · exact b.done k hk h0 hq hkh
  · have h1 := b.top i hi
    have h2 := b.qs x (by rw [hx]; simp)
    omega
theorem BI.old {h k : Nat} {l : List Nat} (b : BI prev next goal N D q h (k :: l)) (hk : k < N) (h0 : ¬ D.getD k 0 < 0) : BI prev next goal N D q h l := by
  refine ⟨b.len, b.hN, b.hD, b.sound, b.src, b.done, fun i hi => ?_, b.top, b.qs, b.sorted, b.qN, b.low⟩
  rcases b.here i hi with h1 | h1
  · rcases List.mem_cons.1 h1 with rfl | h1
    · exact .inr ⟨by omega, b.top _ hk⟩
    · exact .inl h1
  · exact .inr h1
theorem BI.new {h k : Nat} {l : List Nat} (hpn : ∀ i k, i < N → k < N → i ∈ prev k → k ∈ next i) (hpN : ∀ i k, k < N → i ∈ prev k → i < N) (b : BI prev next goal N D q h (k :: l)) (hkp : k ∈ prev h) (h0 : D.getD k 0 < 0) :
    BI prev next goal N (D.set k (D.getD h 0 + 1)) (q ++ [k]) h l := by
  have hk : k < N := hpN k h b.hN hkp
  have hkl : k < D.length := by rw [b.len]; exact hk
  have hD := b.hD
  have hkh : k ≠ h := by intro e; subst e; omega
  have hh : (D.set k (D.getD h 0 + 1)).getD h 0 = D.getD h 0 := by rw [getD_set' hkl, if_neg (Ne.symm hkh)]
  have hset : ∀ x, x ≠ k → (D.set k (D.getD h 0 + 1)).getD x 0 = D.getD x 0 := fun x hx => by rw [getD_set' hkl, if_neg hx]
  have hsk : (D.set k (D.getD h 0 + 1)).getD k 0 = D.getD h 0 + 1 := by rw [getD_set' hkl, if_pos rfl]
  have hkq : ∀ x ∈ q, x ≠ k := fun x hx e => by subst e; have := (b.qN x hx).2; omega
  refine ⟨by rw [List.length_set]; exact b.len, b.hN, by rw [hh]; exact hD, fun i hi h1 => ?_, fun i hi hg => ?_, fun x hx h1 hxq hxh i hi => ?_, fun i hi => ?_, fun i hi => ?_, fun x hx => ?_, ?_, fun x hx => ?_, fun i hi => ?_⟩
  · by_cases e : i = k
    · subst e
      rw [hsk]
      have h2 := b.sound h b.hN hD
      rw [show (D.getD h 0 + 1).toNat = (D.getD h 0).toNat + 1 by omega]
      exact ⟨h, hpn i h hi b.hN hkp, h2⟩
    · rw [hset i e] at h1 ⊢
      exact b.sound i hi h1
  · have e : i ≠ k := by
      intro e; subst e
      have := b.src i hi hg
      omega
    rw [hset i e]
    exact b.src i hi hg
  · have e : x ≠ k := by intro e; subst e; simp at hxq
    rw [hset x e] at h1 ⊢
    have h2 := b.done x hx h1 (fun h => hxq (by simp [h])) hxh i hi
    have e2 : i ≠ k := by intro e2; subst e2; omega
    rw [hset i e2]
    exact h2
  · rw [hh]
    by_cases e : i = k
    · subst e
      refine .inr ?_
      rw [hsk]
      omega
    · rw [hset i e]
      rcases b.here i hi with h1 | h1
      · rcases List.mem_cons.1 h1 with h1 | h1
        · exact absurd h1 e
        · exact .inl h1
      · exact .inr h1
  · rw [hh]
    by_cases e : i = k
    · subst e; rw [hsk]; omega
    · rw [hset i e]; exact b.top i hi
  · rw [hh]
    rcases List.mem_append.1 hx with hx | hx
    · rw [hset x (hkq x hx)]; exact b.qs x hx
    · have : x = k := by simpa using hx
      subst this
      rw [hsk]; omega
  · rw [List.pairwise_append]
    refine ⟨?_, by simp, fun x hx y hy => ?_⟩
    · refine List.Pairwise.imp_of_mem (fun {x y} hx hy hxy => ?_) b.sorted
      rw [hset x (hkq x hx), hset y (hkq y hy)]
      exact hxy
    · have : y = k := by simpa using hy
      subst this
      rw [hset x (hkq x hx), hsk]
      exact b.top x (b.qN x hx).1
  · rcases List.mem_append.1 hx with hx | hx
    · rw [hset x (hkq x hx)]; exact b.qN x hx
    · have : x = k := by simpa using hx
      subst this
      rw [hsk]
      exact ⟨hk, by omega⟩
  · by_cases e : i = k
    · subst e; rw [hsk]; omega
    · rw [hset i e]; exact b.low i hi

theorem BI.all (hpn : ∀ i k, i < N → k < N → i ∈ prev k → k ∈ next i) (hpN : ∀ i k, k < N → i ∈ prev k → i < N) {h : Nat} : ∀ (l : List Nat) (D : List Int) (q : List Nat) (d : Int), d = D.getD h 0 + 1 → BI prev next goal N D q h l → (∀ k ∈ l, k ∈ prev h) →
    BO prev next goal N (relax d l D q).1 (relax d l D q).2 ∧ (relax d l D q).2.length + negs (relax d l D q).1 = q.length + negs D
  | [], _, _, _, _, b, _ => ⟨b.leave, rfl⟩
  | k :: l, D, q, d, hd, b, hl => by
    have hk : k < N := hpN k h b.hN (hl k (by simp))
    rw [relax]
    by_cases h0 : D.getD k 0 < 0
    · rw [if_pos h0]
      have hkl : k < D.length := by rw [b.len]; exact hk
      have hkh : k ≠ h := by intro e; subst e; have := b.hD; omega
      have h1 := BI.new hpn hpN b (hl k (by simp)) h0
      rw [← hd] at h1
      have := BI.all hpn hpN l (D.set k d) (q ++ [k]) d (by rw [getD_set' hkl, if_neg (Ne.symm hkh)]; exact hd) h1 (fun x hx => hl x (List.mem_cons_of_mem _ hx))
      refine ⟨this.1, this.2.trans ?_⟩
      have h3 := negs_set hkl h0 (d := d) (by have := b.hD; omega)
      rw [List.length_append, List.length_singleton]
      omega
    · rw [if_neg h0]
      exact BI.all hpn hpN l D q d hd (b.old hk h0) (fun x hx => hl x (List.mem_cons_of_mem _ hx))

theorem BO.fin (hnN : ∀ i k, i < N → k ∈ next i → k < N) (hnp : ∀ i k, i < N → k < N → k ∈ next i → i ∈ prev k) (b : BO prev next goal N D []) : ∀ i, i < N → IsDist next goal i (D.getD i 0) := by
  have hall : ∀ (n i : Nat), i < N → toG next goal n i → 0 ≤ D.getD i 0 ∧ D.getD i 0 ≤ n := by
    intro n
    induction n with
    | zero =>
      intro i hi h
      rw [b.src i hi h]
      omega
    | succ n ih =>
      rintro i hi ⟨k, hk, h⟩
      have hkN := hnN i k hi hk
      have h1 := ih k hkN h
      have h2 := b.done k hkN h1.1 (by simp) i (hnp i k hi hkN hk)
      omega
  intro i hi
  by_cases h0 : 0 ≤ D.getD i 0
  · exact .inr ⟨h0, b.sound i hi h0, fun m hm h => by have := hall m i hi h; omega⟩
  · refine .inl ⟨by have := b.low i hi; omega, fun n h => h0 (hall n i hi h).1⟩

theorem bfs_dist (hpn : ∀ i k, i < N → k < N → i ∈ prev k → k ∈ next i) (hpN : ∀ i k, k < N → i ∈ prev k → i < N) (hnN : ∀ i k, i < N → k ∈ next i → k < N) (hnp : ∀ i k, i < N → k < N → k ∈ next i → i ∈ prev k) :
    ∀ (f : Nat) (D : List Int) (q : List Nat), BO prev next goal N D q → q.length + negs D ≤ f → ∀ i, i < N → IsDist next goal i ((bfs prev f D q).getD i 0) := by
  intro f
  induction f with
  | zero =>
    intro D q b hf
    have : q = [] := List.eq_nil_of_length_eq_zero (by omega)
    subst this
    exact b.fin hnN hnp
  | succ f ih =>
    intro D q b hf
    cases q with
    | nil => exact b.fin hnN hnp
    | cons h q =>
      rw [bfs]
      have := BI.all hpn hpN (prev h) D q _ rfl b.enter (fun _ h => h)
      exact ih _ _ this.1 (by rw [this.2]; rw [List.length_cons] at hf; omega)

/-! ### The same by sweeps -/
/-- after the sweeps up to d: the distances up to d are known -/
def SwO (next : Nat → List Nat) (goal : Nat → Prop) (N : Nat) (D : List Int) (d : Nat) : Prop :=
  D.length = N ∧ ∀ i, i < N → (D.getD i 0 = -1 ∧ ∀ m, m ≤ d → ¬ toG next goal m i) ∨ (0 ≤ D.getD i 0 ∧ D.getD i 0 ≤ d ∧ IsDist next goal i (D.getD i 0))
/-- within the sweep for d + 1: the vertices below j are done -/
def SwI (next : Nat → List Nat) (goal : Nat → Prop) (N : Nat) (D : List Int) (d j : Nat) (ch : Bool) : Prop :=
  D.length = N ∧ (∀ i, i < N → (D.getD i 0 = -1 ∧ (∀ m, m ≤ d → ¬ toG next goal m i) ∧ (i < j → ¬ toG next goal (d + 1) i)) ∨ (0 ≤ D.getD i 0 ∧ D.getD i 0 ≤ (d : Int) + 1 ∧ IsDist next goal i (D.getD i 0))) ∧
    (ch = false → ∀ i, i < N → D.getD i 0 ≤ d)
theorem SwO.enter {d : Nat} (h : SwO next goal N D d) : SwI next goal N D d 0 false := by
  refine ⟨h.1, fun i hi => ?_, fun _ i hi => ?_⟩
  · rcases h.2 i hi with h1 | h1
    · exact .inl ⟨h1.1, h1.2, fun h => by omega⟩
    · exact .inr ⟨h1.1, by omega, h1.2.2⟩
  · rcases h.2 i hi with h1 | h1 <;> omega
theorem SwI.leave {d : Nat} {ch : Bool} (h : SwI next goal N D d N ch) : SwO next goal N D (d + 1) := by
  refine ⟨h.1, fun i hi => ?_⟩
  rcases h.2.1 i hi with h1 | h1
  · refine .inl ⟨h1.1, fun m hm => ?_⟩
    by_cases e : m = d + 1
    · subst e; exact h1.2.2 hi
    · exact h1.2.1 m (by omega)
  · exact .inr ⟨h1.1, by omega, h1.2.2⟩
theorem SwI.stop (hnN : ∀ i k, i < N → k ∈ next i → k < N) {d : Nat} (h : SwI next goal N D d N false) : ∀ i, i < N → IsDist next goal i (D.getD i 0) := by
  have hno : ∀ i, i < N → toG next goal (d + 1) i → ∃ m, m ≤ d ∧ toG next goal m i := by
    intro i hi ht
    rcases h.2.1 i hi with h1 | h1
    · exact absurd ht (h1.2.2 hi)
    · have h2 := h.2.2 rfl i hi
      rcases h1.2.2 with h3 | h3
      · omega
      · exact ⟨_, by omega, h3.2.1⟩
  have hall : ∀ (n i : Nat), i < N → toG next goal n i → ∃ m, m ≤ d ∧ toG next goal m i := by
    intro n
    induction n with
    | zero => intro i _ h; exact ⟨0, Nat.zero_le _, h⟩
    | succ n ih =>
      rintro i hi ⟨k, hk, ht⟩
      obtain ⟨m, hm, h2⟩ := ih k (hnN i k hi hk) ht
      by_cases e : m = d
      · subst e
        exact hno i hi ⟨k, hk, h2⟩
      · exact ⟨m + 1, by omega, k, hk, h2⟩
  intro i hi
  rcases h.2.1 i hi with h1 | h1
  · refine .inl ⟨h1.1, fun n hn => ?_⟩
    obtain ⟨m, hm, h2⟩ := hall n i hi hn
    exact h1.2.1 m hm h2
  · exact h1.2.2
/-- vertex j is known already, or none of its next ones is at distance d -/
theorem SwI.skip {d j : Nat} {ch : Bool} (h : SwI next goal N D d j ch) (hs : ¬ D.getD j 0 < 0 ∨ ∀ k ∈ next j, D.getD k 0 ≠ d) (hnN : ∀ i k, i < N → k ∈ next i → k < N) : SwI next goal N D d (j + 1) ch := by
  refine ⟨h.1, fun i hi => ?_, h.2.2⟩
  rcases h.2.1 i hi with h1 | h1
  · refine .inl ⟨h1.1, h1.2.1, fun hij => ?_⟩
    by_cases e : i = j
    · subst e
      rcases hs with hs | hs
      · omega
      · rintro ⟨k, hk, ht⟩
        have hkN := hnN i k hi hk
        rcases h.2.1 k hkN with h2 | h2
        · exact h2.2.1 d (Nat.le_refl _) ht
        · rcases h2.2.2 with h3 | h3
          · omega
          · have h4 : ¬ d < (D.getD k 0).toNat := fun hlt => h3.2.2 d hlt ht
            have h5 := hs k hk
            refine h1.2.1 ((D.getD k 0).toNat + 1) (by omega) ⟨k, hk, h3.2.1⟩
    · exact h1.2.2 (by omega)
  · exact .inr h1
theorem SwI.put {d j k : Nat} {ch : Bool} (h : SwI next goal N D d j ch) (hj : j < N) (h0 : D.getD j 0 < 0) (hk : k ∈ next j) (hkd : D.getD k 0 = d) (hnN : ∀ i k, i < N → k ∈ next i → k < N) : SwI next goal N (D.set j ((d : Int) + 1)) d (j + 1) true := by
  have hjl : j < D.length := by rw [h.1]; exact hj
  have hkN := hnN j k hj hk
  refine ⟨by rw [List.length_set]; exact h.1, fun i hi => ?_, fun h => by cases h⟩
  by_cases e : i = j
  · subst e
    rw [getD_set' hjl, if_pos rfl]
    rcases h.2.1 i hi with h1 | h1
    · refine .inr ⟨by omega, by omega, .inr ⟨by omega, ?_, fun m hm => h1.2.1 m (by omega)⟩⟩
      rcases h.2.1 k hkN with h2 | h2
      · omega
      · rcases h2.2.2 with h3 | h3
        · omega
        · have h4 := h3.2.1
          rw [hkd] at h4
          rw [show ((d : Int) + 1).toNat = d + 1 by omega]
          exact ⟨k, hk, by simpa using h4⟩
    · omega
  · rw [getD_set' hjl, if_neg e]
    rcases h.2.1 i hi with h1 | h1
    · exact .inl ⟨h1.1, h1.2.1, fun hij => h1.2.2 (by omega)⟩
    · exact .inr h1
end

/-- the lists turned round -/
def turnL (N : Nat) (next : Nat → List Nat) (k : Nat) : List Nat := (List.range N).flatMap fun i => (next i).filterMap fun x => if x = k then some i else none
theorem mem_turnL {N : Nat} {next : Nat → List Nat} {i k : Nat} : i ∈ turnL N next k ↔ i < N ∧ k ∈ next i := by
  unfold turnL
  simp only [List.mem_flatMap, List.mem_range, List.mem_filterMap]
  constructor
  · rintro ⟨j, hj, x, hx, he⟩
    by_cases h : x = k
    · rw [if_pos h] at he
      injection he with he
      subst h he
      exact ⟨hj, hx⟩
    · rw [if_neg h] at he; cases he
  · rintro ⟨hi, hk⟩
    exact ⟨i, hi, k, hk, by simp⟩
end Go.Proofs.Ythnapjodmndlaaa

/- Plain: distances by relaxing a list of edges until nothing changes (the reference's l10Far). -/
namespace Go.Proofs.Ythnapjodmndlaaa
set_option linter.unusedVariables false
set_option linter.unusedSimpArgs false

def rlxB (F : List Int) (e : Nat × Nat) : Bool := decide (0 < F.getD e.2 0 + 1) && (decide (F.getD e.1 0 < 0) || decide (F.getD e.2 0 + 1 < F.getD e.1 0))
def rlx (F : List Int) (e : Nat × Nat) : List Int := if rlxB F e = true then F.set e.1 (F.getD e.2 0 + 1) else F
def nextE (es : List (Nat × Nat)) (i : Nat) : List Nat := (es.filter fun e => e.1 == i).map (·.2)
theorem mem_nextE {es : List (Nat × Nat)} {i k : Nat} : k ∈ nextE es i ↔ (i, k) ∈ es := by
  rw [nextE, List.mem_map]
  constructor
  · rintro ⟨⟨a, b⟩, h, rfl⟩
    rw [List.mem_filter, beq_iff_eq] at h
    obtain ⟨h1, rfl⟩ := h
    exact h1
  · intro h
    exact ⟨(i, k), List.mem_filter.2 ⟨h, by simp⟩, rfl⟩
def nonneg (F : List Int) : Nat := (F.filter fun x => decide (0 ≤ x)).length
/-- every number is an exact number of steps to a goal, goals have 0, and no number reaches the count of those that have one -/
structure FarI (es : List (Nat × Nat)) (goal : Nat → Prop) (N : Nat) (F : List Int) : Prop where
  len : F.length = N
  low : ∀ i, i < N → -1 ≤ F.getD i 0
  way : ∀ i, i < N → 0 ≤ F.getD i 0 → toG (nextE es) goal (F.getD i 0).toNat i
  zero : ∀ i, i < N → goal i → F.getD i 0 = 0
  top : ∀ i, i < N → F.getD i 0 < (nonneg F : Int)
theorem getD_set {F : List Int} {i j : Nat} {v : Int} (hi : i < F.length) : (F.set i v).getD j 0 = if i = j then v else F.getD j 0 := by
  rw [List.getD_eq_getElem?_getD, List.getElem?_set]
  by_cases h : i = j
  · subst h
    rw [if_pos rfl, if_pos rfl, if_pos hi]
    rfl
  · rw [if_neg h, if_neg h, List.getD_eq_getElem?_getD]
theorem nonneg_set {v : Int} (hv : 0 ≤ v) : ∀ {F : List Int} {i : Nat}, i < F.length → nonneg (F.set i v) = nonneg F + (if F.getD i 0 < 0 then 1 else 0)
  | x :: F, 0, _ => by
    simp only [nonneg, List.set_cons_zero, List.filter_cons, List.getD_cons_zero]
    by_cases hx : 0 ≤ x
    · rw [if_pos (by simpa using hv), if_pos (by simpa using hx), if_neg (by omega)]
      simp
    · rw [if_pos (by simpa using hv), if_neg (by simpa using hx), if_pos (by omega)]
      simp
  | x :: F, i + 1, h => by
    have ih := nonneg_set hv (F := F) (i := i) (by simpa using h)
    simp only [nonneg] at ih
    simp only [nonneg, List.set_cons_succ, List.filter_cons, List.getD_cons_succ]
    split
    · rw [List.length_cons, List.length_cons, ih]; omega
    · exact ih
theorem nonneg_le (F : List Int) : nonneg F ≤ F.length := List.length_filter_le _ _
theorem FarI.relax {es : List (Nat × Nat)} {goal : Nat → Prop} {N : Nat} {F : List Int} (h : FarI es goal N F) {e : Nat × Nat} (he : e ∈ es) (h1 : e.1 < N) (h2 : e.2 < N) : FarI es goal N (rlx F e) := by
  rw [rlx]
  split
  · rename_i hb
    simp only [rlxB, Bool.and_eq_true, Bool.or_eq_true, decide_eq_true_eq] at hb
    obtain ⟨hb1, hb2⟩ := hb
    have hl1 : e.1 < F.length := by rw [h.len]; exact h1
    have h0 : 0 ≤ F.getD e.2 0 := by omega
    have hns := nonneg_set (v := F.getD e.2 0 + 1) (by omega) hl1
    have ht := h.top e.2 h2
    have ht1 := h.top e.1 h1
    refine ⟨by rw [List.length_set]; exact h.len, fun i hi => ?_, fun i hi hn => ?_, fun i hi hg => ?_, fun i hi => ?_⟩
    · rw [getD_set hl1]
      have := h.low i hi
      split <;> omega
    · rw [getD_set hl1] at hn ⊢
      split
      · rename_i hie
        subst hie
        rw [show (F.getD e.2 0 + 1).toNat = (F.getD e.2 0).toNat + 1 by omega]
        exact ⟨e.2, mem_nextE.2 he, h.way e.2 h2 h0⟩
      · rename_i hie
        rw [if_neg hie] at hn
        exact h.way i hi hn
    · rw [getD_set hl1]
      have hz := h.zero i hi hg
      split
      · rename_i hie
        subst hie
        omega
      · exact hz
    · rw [getD_set hl1, hns]
      have := h.top i hi
      split
      · split <;> omega
      · split <;> omega
  · exact h
/-- what falls with each change -/
def farW (N : Nat) (F : List Int) : Nat := (F.map fun x => if x < 0 then N else x.toNat).sum
theorem sum_set {f : Int → Nat} {v : Int} : ∀ {F : List Int} {i : Nat}, i < F.length → ((F.set i v).map f).sum + f (F.getD i 0) = (F.map f).sum + f v
  | x :: F, 0, _ => by simp; omega
  | x :: F, i + 1, h => by
    have ih := sum_set (f := f) (v := v) (F := F) (i := i) (by simpa using h)
    simp only [List.set_cons_succ, List.map_cons, List.sum_cons, List.getD_cons_succ]
    omega
theorem FarI.falls {es : List (Nat × Nat)} {goal : Nat → Prop} {N : Nat} {F : List Int} (h : FarI es goal N F) {e : Nat × Nat} (h1 : e.1 < N) (h2 : e.2 < N) (hb : rlxB F e = true) : farW N (rlx F e) < farW N F := by
  rw [rlx, if_pos hb]
  simp only [rlxB, Bool.and_eq_true, Bool.or_eq_true, decide_eq_true_eq] at hb
  obtain ⟨hb1, hb2⟩ := hb
  have hl1 : e.1 < F.length := by rw [h.len]; exact h1
  have hs := sum_set (f := fun x => if x < 0 then N else x.toNat) (v := F.getD e.2 0 + 1) hl1
  have ht := h.top e.2 h2
  have hN := nonneg_le F
  have ht1 := h.top e.1 h1
  rw [h.len] at hN
  have hlt : nonneg F < N ∨ ¬ F.getD e.1 0 < 0 := by
    by_cases hn : F.getD e.1 0 < 0
    · refine .inl ?_
      have := nonneg_set (v := 0) (by omega) hl1
      rw [if_pos hn] at this
      have h3 := nonneg_le (F.set e.1 0)
      rw [List.length_set, h.len] at h3
      omega
    · exact .inr hn
  unfold farW
  generalize ((F.set e.1 (F.getD e.2 0 + 1)).map fun x => if x < 0 then N else x.toNat).sum = a at *
  generalize (F.map fun x => if x < 0 then N else x.toNat).sum = b at *
  have e1 : (if F.getD e.2 0 + 1 < 0 then N else (F.getD e.2 0 + 1).toNat) = (F.getD e.2 0 + 1).toNat := if_neg (by omega)
  rw [e1] at hs
  split at hs <;> omega
/-- nothing changes any more: the numbers are the distances -/
theorem FarI.stop {es : List (Nat × Nat)} {goal : Nat → Prop} {N : Nat} {F : List Int} (h : FarI es goal N F) (hr : ∀ e ∈ es, e.1 < N ∧ e.2 < N) (hs : ∀ e ∈ es, rlxB F e = false) : ∀ i, i < N → IsDist (nextE es) goal i (F.getD i 0) := by
  have key : ∀ (n i : Nat), i < N → toG (nextE es) goal n i → 0 ≤ F.getD i 0 ∧ F.getD i 0 ≤ (n : Int) := by
    intro n
    induction n with
    | zero =>
      intro i hi hg
      have := h.zero i hi hg
      omega
    | succ n ih =>
      rintro i hi ⟨k, hk, hg⟩
      have he := mem_nextE.1 hk
      have hk2 := (hr _ he).2
      have h1 := ih k hk2 hg
      have h2 := hs _ he
      rw [← Bool.not_eq_true] at h2
      simp only [rlxB, Bool.and_eq_true, Bool.or_eq_true, decide_eq_true_eq] at h2
      have h3 := h.low i hi
      omega
  intro i hi
  have hl := h.low i hi
  by_cases h0 : 0 ≤ F.getD i 0
  · exact .inr ⟨h0, h.way i hi h0, fun m hm hg => by have := key m i hi hg; omega⟩
  · exact .inl ⟨by omega, fun n hg => h0 (key n i hi hg).1⟩
/-- one pass -/
theorem FarI.pass {es : List (Nat × Nat)} {goal : Nat → Prop} {N : Nat} (hr : ∀ e ∈ es, e.1 < N ∧ e.2 < N) : ∀ (l : List (Nat × Nat)) (F : List Int), (∀ e ∈ l, e ∈ es) → FarI es goal N F → FarI es goal N (l.foldl rlx F) ∧ farW N (l.foldl rlx F) ≤ farW N F
  | [], F, _, h => ⟨h, Nat.le_refl _⟩
  | e :: l, F, hl, h => by
    have he := hl e List.mem_cons_self
    have hee := hr e he
    have h1 := FarI.pass hr l (rlx F e) (fun x hx => hl x (List.mem_cons_of_mem _ hx)) (h.relax he hee.1 hee.2)
    refine ⟨h1.1, Nat.le_trans h1.2 ?_⟩
    cases hb : rlxB F e with
    | true => exact Nat.le_of_lt (h.falls hee.1 hee.2 hb)
    | false => rw [rlx, hb]; exact Nat.le_refl _
end Go.Proofs.Ythnapjodmndlaaa

