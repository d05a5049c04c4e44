/- Parts of the proof, joined into one text: Base, Frame, Open, Hold, Grow, Tail. -/
import Derived.Test.YtallglnmeeahiaaRows
import Derived.WalkKit
import Derived.ProofKit
import Derived.OpenShut
import Derived.Deep.QuietTactic
import Derived.BigQuiet
import Derived.Lib.Hide
import Derived.Maps.AppendAt
import Derived.Outline
import Derived.Deep.DeepMust
import Derived.Carry
import Derived.Deep.Slices
import Derived.Deep.Fields
import Derived.Lib.SmallJoins
import Derived.StillTail
/- Words on memory that all walks of this seat use; nothing of the program. -/
namespace Go.Proofs.Ytallglnmeeahiaa
set_option linter.unusedVariables false
set_option linter.unusedSimpArgs false
open Go.ChangeShapes Go.WideShapes Go.ChangeAt Go.RowKit

/-! ### 'ext w u': a world in which all blocks of w are as they were -/
def ext (w u : World) : World := { u with heap := w.heap ++ u.heap.extract w.heap.size u.heap.size, os := w.os, tape := w.tape, output := w.output }

theorem ext_below (w u : World) : Below w.heap.size w (ext w u) :=
  ⟨rfl, rfl, rfl, by simp [ext], fun k hk => by simp [ext, Array.getElem?_append, hk]⟩
theorem ext_of {w w' : World} (h : Below w.heap.size w w') : ∃ u, w' = ext w u := by
  refine ⟨w', ?_⟩
  obtain ⟨h1, h2, h3, h4, h5⟩ := h
  have hh : w.heap ++ w'.heap.extract w.heap.size w'.heap.size = w'.heap := by
    apply Array.ext_getElem?
    intro i
    rw [Array.getElem?_append]
    split
    · rename_i hi
      exact (h5 i hi).symm
    · rw [Array.getElem?_extract]
      split
      · congr 1; omega
      · rw [Array.getElem?_eq_none]; omega
  cases w'
  simp only [ext] at *
  simp_all
theorem ext_cell {w u : World} {b o : Nat} (h : b < w.heap.size) : (ext w u).cell? ⟨b, o, none⟩ = w.cell? ⟨b, o, none⟩ := (ext_below w u).cell (p := ⟨b, o, none⟩) h
theorem ext_frozen {w u : World} {b o : Nat} (h : b < w.heap.size) : (ext w u).frozen? ⟨b, o, none⟩ = w.frozen? ⟨b, o, none⟩ := (ext_below w u).frozen (p := ⟨b, o, none⟩) h
theorem ext_size (w u : World) : w.heap.size ≤ (ext w u).heap.size := (ext_below w u).size
theorem ext_lt {w u : World} {b : Nat} (h : b < w.heap.size) : (b < (ext w u).heap.size) = True := by
  have := ext_size w u
  simp; omega
theorem ext_lt1 {w u : World} {b : Nat} (h : b < w.heap.size) : (b < (ext w u).heap.size + 1) = True := by
  have := ext_size w u
  simp; omega
theorem ext_lt2 {w u : World} {b : Nat} (h : b < w.heap.size) : (b < (ext w u).heap.size + 1 + 1) = True := by
  have := ext_size w u
  simp; omega
theorem ext_lt3 {w u : World} {b : Nat} (h : b < w.heap.size) : (b < (ext w u).heap.size + 1 + 1 + 1) = True := by
  have := ext_size w u
  simp; omega
theorem ltn2 (n : Nat) : (n < n + 1 + 1) = True := eq_true (by omega)
theorem ltn3 (n : Nat) : (n < n + 1 + 1 + 1) = True := eq_true (by omega)
theorem ltn13 (n : Nat) : (n + 1 < n + 1 + 1 + 1) = True := eq_true (by omega)
theorem lts1 {b n : Nat} (h : b < n) : (b < n + 1) = True := eq_true (by omega)
theorem lts2 {b n : Nat} (h : b < n) : (b < n + 1 + 1) = True := eq_true (by omega)
theorem lts3 {b n : Nat} (h : b < n) : (b < n + 1 + 1 + 1) = True := eq_true (by omega)
theorem below_trans {a b c : World} (h : Below a.heap.size a b) (k : Below b.heap.size b c) : Below a.heap.size a c := h.trans (k.mono h.size)
theorem ext_ext (w u v : World) : ∃ x, ext (ext w u) v = ext w x := ext_of (below_trans (ext_below w u) (ext_below _ v))
theorem ext_self (w : World) : w = ext w w := by
  obtain ⟨u, hu⟩ := ext_of (Below.refl w.heap.size w)
  have h : ext w w = w := by
    cases w
    simp [ext]
  exact h.symm
theorem below_drewN {B : Nat} {a w : World} (h : Below B a w) (n : Nat) : Below B a (w.drewN n) := ⟨h.os, h.tape, h.output, h.size, h.block⟩
theorem below_ext {B : Nat} {a w : World} (h : Below B a w) (hB : B ≤ w.heap.size) (u : World) : Below B a (ext w u) := h.trans ((ext_below w u).mono hB)

theorem Calls.ext_of {P : Program} {f : FuncId} {args : Array Value} {w u : World} {v : Value}
    (h : Calls P f args (ext w u) fun e w' => e = .returned v ∧ Below (ext w u).heap.size (ext w u) w') : Calls P f args (ext w u) fun e w'' => e = .returned v ∧ ∃ x, w'' = ext w x :=
  h.mono fun _ _ ⟨he, hb⟩ => ⟨he, Go.Proofs.Ytallglnmeeahiaa.ext_of (below_trans (ext_below w u) hb)⟩

theorem wp_region_ext_lit {P : Program} {id : Nat} {Q : Exit → Act → World → Prop} {a : Act} {w : World} {l : List Oper} (hm : P.follows .mixedOrders = true) (hB : Region.lexB .any l.toArray = true)
    (h : wpQuiet P l.toArray (fun w' => ∃ u, w' = ext w u) (fun a' => ∀ w', (∃ u, w' = ext w u) → Q .normal a' w') l a) : (Code.region id l.toArray true).wp P Q a w :=
  wp_region_quiet (C := fun w' => ∃ u, w' = ext w u) hm hB (Go.Proofs.Ytallglnmeeahiaa.ext_of ⟨rfl, rfl, rfl, Nat.le_refl _, fun _ _ => rfl⟩) (by simpa using h)

/-! ### Only the blocks from lo to hi have turned -/
structure Only (lo hi : Nat) (w w' : World) : Prop where
  os : w'.os = w.os
  tape : w'.tape = w.tape
  output : w'.output = w.output
  size : w.heap.size ≤ w'.heap.size
  block : ∀ n, n < w.heap.size → (n < lo ∨ hi ≤ n) → w'.heap[n]? = w.heap[n]?

theorem Only.of_below {w w' : World} (h : Below w.heap.size w w') (lo hi : Nat) : Only lo hi w w' := ⟨h.os, h.tape, h.output, h.size, fun n hn _ => h.block n hn⟩
theorem Only.refl (lo hi : Nat) (w : World) : Only lo hi w w := ⟨rfl, rfl, rfl, Nat.le_refl _, fun _ _ _ => rfl⟩
theorem Only.trans {lo hi : Nat} {a b c : World} (h : Only lo hi a b) (k : Only lo hi b c) : Only lo hi a c :=
  ⟨k.os.trans h.os, k.tape.trans h.tape, k.output.trans h.output, Nat.le_trans h.size k.size, fun n hn ho => (k.block n (Nat.lt_of_lt_of_le hn h.size) ho).trans (h.block n hn ho)⟩
theorem Only.mono {lo hi lo' hi' : Nat} {a b : World} (h : Only lo hi a b) (h1 : lo' ≤ lo) (h2 : hi ≤ hi') : Only lo' hi' a b :=
  ⟨h.os, h.tape, h.output, h.size, fun n hn ho => h.block n hn (by omega)⟩
theorem Only.below {lo hi : Nat} {a b : World} (h : Only lo hi a b) {B : Nat} (hB : B ≤ lo) (hs : B ≤ a.heap.size) : Below B a b :=
  ⟨h.os, h.tape, h.output, h.size, fun n hn => h.block n (by omega) (.inl (by omega))⟩
theorem Only.drew {lo hi : Nat} {a b : World} (h : Only lo hi a b) : Only lo hi a b.drew := ⟨h.os, h.tape, h.output, h.size, h.block⟩
theorem Only.drewN {lo hi : Nat} {a b : World} (h : Only lo hi a b) (n : Nat) : Only lo hi a (b.drewN n) := ⟨h.os, h.tape, h.output, h.size, h.block⟩
theorem Only.alloc {lo hi : Nat} {a b : World} (h : Only lo hi a b) (o : Obj) : Only lo hi a (b.alloc o) :=
  h.trans ⟨rfl, rfl, rfl, by simp, fun n hn _ => Below.heap_alloc _ _ _ hn⟩
theorem Only.setCell {lo hi : Nat} {a b : World} (h : Only lo hi a b) {p : Addr} (h1 : lo ≤ p.block ∧ p.block < hi ∨ a.heap.size ≤ p.block) (u : Value) : Only lo hi a (b.setCell p u) :=
  ⟨h.os, h.tape, h.output, by simpa [World.setCell] using h.size, fun n hn ho => (Below.heap_setCell _ _ _ _ (by omega)).trans (h.block n hn ho)⟩
theorem Only.cell {lo hi : Nat} {w w' : World} (h : Only lo hi w w') {p : Addr} (hp : p.block < w.heap.size) (ho : p.block < lo ∨ hi ≤ p.block) : w'.cell? p = w.cell? p := World.cell?_of_block (w := w) (h.block p.block hp ho)

/-! ### A slice that reads as a list: each element is k cells, 'E x'; its block lies from lo to hi -/
def SlI {α : Type} (lo hi : Nat) (w : World) (E : α → List Value) (k : Nat) (v : Value) (xs : List α) : Prop :=
  ∃ A c, v = .slice A xs.length c ∧ xs.length ≤ c ∧ c ≤ maxLen ∧
    ∀ i x, xs[i]? = some x → ∃ b o, A = some ⟨b, o, none⟩ ∧ lo ≤ b ∧ b < hi ∧ ∀ j u, (E x)[j]? = some u → w.cell? ⟨b, o + i * k + j, none⟩ = some u
abbrev SlE {α : Type} (w : World) (E : α → List Value) (k : Nat) (v : Value) (xs : List α) : Prop := SlI 0 w.heap.size w E k v xs

section
variable {α : Type} {lo hi : Nat} {w w' : World} {E : α → List Value} {k : Nat} {v : Value} {xs : List α}
theorem SlI.keep_ (h : SlI lo hi w E k v xs) (hb : ∀ b o, lo ≤ b → b < hi → w'.cell? ⟨b, o, none⟩ = w.cell? ⟨b, o, none⟩) : SlI lo hi w' E k v xs := by
  obtain ⟨A, c, hv, hl, hm, hx⟩ := h
  refine ⟨A, c, hv, hl, hm, fun i x hi => ?_⟩
  obtain ⟨b, o, hA, h1, h2, hc⟩ := hx i x hi
  exact ⟨b, o, hA, h1, h2, fun j u hu => (hb _ _ h1 h2).trans (hc j u hu)⟩
theorem SlI.below (h : SlI lo hi w E k v xs) {B : Nat} (hb : Below B w w') (hB : hi ≤ B) : SlI lo hi w' E k v xs :=
  h.keep_ fun b o _ h2 => hb.cell (p := ⟨b, o, none⟩) (show b < B by omega)
theorem SlI.only (h : SlI lo hi w E k v xs) {l r : Nat} (hb : Only l r w w') (hh : hi ≤ w.heap.size) (ho : hi ≤ l ∨ r ≤ lo) : SlI lo hi w' E k v xs :=
  h.keep_ fun b o h1 h2 => hb.cell (p := ⟨b, o, none⟩) (show b < _ by omega) (show b < l ∨ r ≤ b by omega)
theorem SlI.mono (h : SlI lo hi w E k v xs) {lo' hi' : Nat} (h1 : lo' ≤ lo) (h2 : hi ≤ hi') : SlI lo' hi' w E k v xs := by
  obtain ⟨A, c, hv, hl, hm, hx⟩ := h
  refine ⟨A, c, hv, hl, hm, fun i x hi => ?_⟩
  obtain ⟨b, o, hA, g1, g2, hc⟩ := hx i x hi
  exact ⟨b, o, hA, by omega, by omega, hc⟩
theorem SlI.all (h : SlI lo hi w E k v xs) (hh : hi ≤ w.heap.size) : SlE w E k v xs := h.mono (Nat.zero_le _) hh
theorem SlE.keep (h : SlE w E k v xs) (hb : Below w.heap.size w w') : SlE w' E k v xs := (SlI.below h hb (Nat.le_refl _)).mono (Nat.le_refl _) hb.size
theorem SlE.ext (h : SlE w E k v xs) (u : World) : SlE (ext w u) E k v xs := h.keep (ext_below w u)
theorem SlI.shape (h : SlI lo hi w E k v xs) : ∃ A n c, v = .slice A n c := by
  obtain ⟨A, c, rfl, _⟩ := h
  exact ⟨_, _, _, rfl⟩
theorem SlI.nil (lo hi : Nat) (w : World) (E : α → List Value) (k : Nat) : SlI lo hi w E k (.slice none 0 0) [] := ⟨none, 0, rfl, Nat.le_refl _, by unfold maxLen; omega, by simp⟩
end

/-! ### A slice that the call itself made: a row of its own -/
def Own {α : Type} (lo hi : Nat) (w : World) (e : TypeId) (E : α → List Value) (k : Nat) (v : Value) (xs : List α) : Prop :=
  w.ownsRow lo e k v xs.length (xs.flatMap E) ∧ ∀ g, v.ownBlock = some g → g < hi

theorem flat_at {α : Type} {E : α → List Value} {k : Nat} (hE : ∀ x, (E x).length = k) : ∀ {xs : List α} {i : Nat} {x : α}, xs[i]? = some x → ∀ j u, (E x)[j]? = some u → (xs.flatMap E)[i * k + j]? = some u := by
  intro xs
  induction xs with
  | nil => intro i x h; simp at h
  | cons y ys ih =>
    intro i x h j u hu
    have hj : j < k := by have := (List.getElem?_eq_some_iff.1 hu).1; rw [hE] at this; exact this
    cases i with
    | zero =>
      have hxy : y = x := by simpa using h
      subst hxy
      simp only [List.flatMap_cons, Nat.zero_mul, Nat.zero_add]
      rw [List.getElem?_append_left (by rw [hE]; exact hj)]
      exact hu
    | succ i =>
      simp only [List.flatMap_cons]
      rw [List.getElem?_append_right (by rw [hE, Nat.succ_mul]; omega), hE]
      have := ih (i := i) (x := x) (by simpa using h) j u hu
      rw [← this]
      congr 1
      rw [Nat.succ_mul]; omega

section
variable {α : Type} {lo hi : Nat} {w w' : World} {e : TypeId} {E : α → List Value} {k : Nat} {v : Value} {xs : List α}
theorem Own.lt (h : Own lo hi w e E k v xs) : ∀ g, v.ownBlock = some g → lo ≤ g ∧ g < hi ∧ g < w.heap.size := fun g hg => ⟨(h.1.lt g hg).1, h.2 g hg, (h.1.lt g hg).2⟩
theorem Own.sl (h : Own lo hi w e E k v xs) (hE : ∀ x, (E x).length = k) : SlI lo hi w E k v xs := by
  obtain ⟨hr, hlt⟩ := h
  have hr' := hr
  obtain ⟨hl, hs⟩ := hr'
  rcases hs with ⟨rfl, hn⟩ | ⟨g, cap, cur, rfl, hg, hh, hnc, hcm, hsz, htk⟩
  · have : xs = [] := List.eq_nil_of_length_eq_zero hn
    subst this
    exact SlI.nil _ _ _ _ _
  · refine ⟨_, cap, rfl, hnc, hcm, fun i x hi => ⟨g, 0, rfl, hg, hlt g rfl, fun j u hu => ?_⟩⟩
    have hf := flat_at hE hi j u hu
    have hj := (List.getElem?_eq_some_iff.1 hf).1
    rw [hl] at hj
    rw [Nat.zero_add]
    exact (World.ownsRow.cellAt hr _ hj).trans hf
theorem Own.kept (h : Own lo hi w e E k v xs) {row : Option Nat} (hg : w.grownBy w' row) (hne : v.ownBlock = none ∨ v.ownBlock ≠ row) : Own lo hi w' e E k v xs := ⟨h.1.kept hg hne, h.2⟩
theorem Own.below (h : Own lo hi w e E k v xs) {B : Nat} (hb : Below B w w') (hB : hi ≤ B) : Own lo hi w' e E k v xs := by
  obtain ⟨⟨hl, hs⟩, hlt⟩ := h
  refine ⟨⟨hl, ?_⟩, hlt⟩
  rcases hs with hs | ⟨g, cap, cur, rfl, hg, hh, r⟩
  · exact .inl hs
  · exact .inr ⟨g, cap, cur, rfl, hg, (hb.block g (by have := hlt g rfl; omega)).trans hh, r⟩
theorem Own.only (h : Own lo hi w e E k v xs) {l r : Nat} (hb : Only l r w w') (ho : hi ≤ l ∨ r ≤ lo) : Own lo hi w' e E k v xs := by
  have hx := h.lt
  obtain ⟨⟨hl, hs⟩, hlt⟩ := h
  refine ⟨⟨hl, ?_⟩, hlt⟩
  rcases hs with hs | ⟨g, cap, cur, rfl, hg, hh, rr⟩
  · exact .inl hs
  · have := hx g rfl
    exact .inr ⟨g, cap, cur, rfl, hg, (hb.block g this.2.2 (by omega)).trans hh, rr⟩
theorem Own.mono (h : Own lo hi w e E k v xs) {lo' hi' : Nat} (h1 : lo' ≤ lo) (h2 : hi ≤ hi') : Own lo' hi' w e E k v xs := by
  obtain ⟨⟨hl, hs⟩, hlt⟩ := h
  refine ⟨⟨hl, ?_⟩, fun g hg => Nat.lt_of_lt_of_le (hlt g hg) h2⟩
  rcases hs with hs | ⟨g, cap, cur, rfl, hg, hh, r⟩
  · exact .inl hs
  · exact .inr ⟨g, cap, cur, rfl, by omega, hh, r⟩
theorem Own.of_row {n : Nat} {cs : List Value} (h : w.ownsRow lo e k v n cs) (hn : xs.length = n) (hc : xs.flatMap E = cs) : Own lo w.heap.size w e E k v xs := by
  subst hn hc
  exact ⟨h, fun g hg => (h.lt g hg).2⟩
theorem Own.shape (h : Own lo hi w e E k v xs) : ∃ A n c, v = .slice A n c := by
  obtain ⟨⟨_, hs⟩, _⟩ := h
  rcases hs with ⟨rfl, _⟩ | ⟨g, cap, cur, rfl, _⟩
  · exact ⟨_, _, _, rfl⟩
  · exact ⟨_, _, _, rfl⟩
theorem Own.nil (lo hi : Nat) (w : World) (e : TypeId) (E : α → List Value) (k : Nat) : Own lo hi w e E k (.slice none 0 0) [] := ⟨World.ownsRow_nil w lo e k, by intro g hg; cases hg⟩
end

/-! ### A block of the call's own that is known whole -/
def Blk (w : World) (g : Nat) (t : TypeId) (cs : Array Value) : Prop := w.heap[g]? = some (.cells cs t (0, 0))
section
variable {w w' : World} {g : Nat} {t : TypeId} {cs : Array Value}
theorem Blk.lt (h : Blk w g t cs) : g < w.heap.size := by
  rcases Nat.lt_or_ge g w.heap.size with hlt | hge
  · exact hlt
  · unfold Blk at h; rw [Array.getElem?_eq_none hge] at h; cases h
theorem Blk.cell (h : Blk w g t cs) (i : Nat) : w.cell? ⟨g, i, none⟩ = cs[i]? := cell_of_row w g i cs t (0, 0) h
theorem Blk.frozen (h : Blk w g t cs) (i : Nat) : w.frozen? ⟨g, i, none⟩ = false := by
  unfold Blk at h
  simp [World.frozen?, h]
theorem Blk.new (w : World) (t : TypeId) (cs : Array Value) (n : Nat) (hn : n = w.heap.size) : Blk (w.alloc (.cells cs t)) n t cs := by subst hn; exact heap_alloc_new w _
theorem Blk.drew (h : Blk w g t cs) : Blk w.drew g t cs := h
theorem Blk.drewN (h : Blk w g t cs) (n : Nat) : Blk (w.drewN n) g t cs := h
theorem Blk.alloc (h : Blk w g t cs) (o : Obj) : Blk (w.alloc o) g t cs := (Below.heap_alloc w o g h.lt).trans h
theorem Blk.set_ (h : Blk w g t cs) (i : Nat) (u : Value) : Blk (w.setCell ⟨g, i, none⟩ u) g t (cs.setIfInBounds i u) := by
  unfold Blk at h ⊢
  simp [World.setCell, Array.getElem?_modify, h]
theorem Blk.far (h : Blk w g t cs) {p : Addr} (hp : g ≠ p.block) (u : Value) : Blk (w.setCell p u) g t cs := (Below.heap_setCell w p u g hp).trans h
theorem Blk.below (h : Blk w g t cs) {B : Nat} (hb : Below B w w') (hg : g < B) : Blk w' g t cs := (hb.block g hg).trans h
theorem Blk.keep (h : Blk w g t cs) (hb : Below w.heap.size w w') : Blk w' g t cs := (hb.block g h.lt).trans h
theorem Blk.only (h : Blk w g t cs) {l r : Nat} (hb : Only l r w w') (ho : g < l ∨ r ≤ g) : Blk w' g t cs := (hb.block g h.lt ho).trans h
end

/-! ### The plain data -/
abbrev Pr := Int × Int
abbrev Ed := Int × Int × Int × Int
abbrev St := Int × Bool
abbrev Wk := Int × List St
def cI (x : Int) : List Value := [.int .i64 x]
def cB (x : Bool) : List Value := [.bool x]
def cU (x : Int) : List Value := [.int .u8 x]
def cV (x : Value) : List Value := [x]
def cPr (p : Pr) : List Value := [.int .i64 p.1, .int .i64 p.2]
def cEd (p : Ed) : List Value := [.int .i64 p.1, .int .i64 p.2.1, .int .i64 p.2.2.1, .int .i64 p.2.2.2]
def cSt (p : St) : List Value := [.int .i64 p.1, .bool p.2]
theorem cI_len (x : Int) : (cI x).length = 1 := rfl
theorem cB_len (x : Bool) : (cB x).length = 1 := rfl
theorem cU_len (x : Int) : (cU x).length = 1 := rfl
theorem cV_len (x : Value) : (cV x).length = 1 := rfl
theorem cPr_len (x : Pr) : (cPr x).length = 2 := rfl
theorem cEd_len (x : Ed) : (cEd x).length = 4 := rfl
theorem cSt_len (x : St) : (cSt x).length = 2 := rfl

theorem cI_one (x : Int) : ∀ u ∈ cI x, u.oneCell' = true := by intro u hu; simp only [cI, List.mem_cons, List.not_mem_nil, or_false] at hu; subst hu; rfl
theorem cB_one (x : Bool) : ∀ u ∈ cB x, u.oneCell' = true := by intro u hu; simp only [cB, List.mem_cons, List.not_mem_nil, or_false] at hu; subst hu; rfl
theorem cPr_one (x : Pr) : ∀ u ∈ cPr x, u.oneCell' = true := by intro u hu; simp only [cPr, List.mem_cons, List.not_mem_nil, or_false] at hu; rcases hu with rfl | rfl <;> rfl
theorem cSt_one (x : St) : ∀ u ∈ cSt x, u.oneCell' = true := by intro u hu; simp only [cSt, List.mem_cons, List.not_mem_nil, or_false] at hu; rcases hu with rfl | rfl <;> rfl
theorem cEd_one (x : Ed) : ∀ u ∈ cEd x, u.oneCell' = true := by intro u hu; simp only [cEd, List.mem_cons, List.not_mem_nil, or_false] at hu; rcases hu with rfl | rfl | rfl | rfl <;> rfl

/-! ### Graphs, automata, walks -/
structure Gr where
  vals : List Int
  edges : List Ed
structure Au where
  start : Int
  accept : List Bool
  next : List (List Int)
def GrV (lo hi : Nat) (w : World) (v : Value) (g : Gr) : Prop := ∃ vs es, v = .agg #[vs, es] ∧ SlI lo hi w cI 1 vs g.vals ∧ SlI lo hi w cEd 4 es g.edges
/-- a slice of slices of numbers -/
def SSV (lo hi : Nat) (w : World) (v : Value) (xss : List (List Int)) : Prop :=
  ∃ vs : List Value, SlI lo hi w cV 1 v vs ∧ vs.length = xss.length ∧ ∀ (i : Nat) (u : Value) (xs : List Int), vs[i]? = some u → xss[i]? = some xs → SlI lo hi w cI 1 u xs
def AuV (lo hi : Nat) (w : World) (v : Value) (a : Au) : Prop := ∃ ac nx, v = .agg #[.int .i64 a.start, ac, nx] ∧ SlI lo hi w cB 1 ac a.accept ∧ SSV lo hi w nx a.next
def WkV (lo hi : Nat) (w : World) (v : Value) (k : Wk) : Prop := ∃ ss, v = .agg #[.int .i64 k.1, ss] ∧ SlI lo hi w cSt 2 ss k.2

section
variable {lo hi : Nat} {w w' : World} {v : Value}
theorem GrV.below {g : Gr} (h : GrV lo hi w v g) {B : Nat} (hb : Below B w w') (hB : hi ≤ B) : GrV lo hi w' v g := by
  obtain ⟨vs, es, rfl, h1, h2⟩ := h
  exact ⟨vs, es, rfl, h1.below hb hB, h2.below hb hB⟩
theorem GrV.mono {g : Gr} (h : GrV lo hi w v g) {lo' hi' : Nat} (h1 : lo' ≤ lo) (h2 : hi ≤ hi') : GrV lo' hi' w v g := by
  obtain ⟨vs, es, rfl, g1, g2⟩ := h
  exact ⟨vs, es, rfl, g1.mono h1 h2, g2.mono h1 h2⟩
theorem GrV.all {g : Gr} (h : GrV lo hi w v g) (hh : hi ≤ w.heap.size) : GrV 0 w.heap.size w v g := h.mono (Nat.zero_le _) hh
theorem GrV.keep {g : Gr} (h : GrV 0 w.heap.size w v g) (hb : Below w.heap.size w w') : GrV 0 w'.heap.size w' v g := (h.below hb (Nat.le_refl _)).mono (Nat.le_refl _) hb.size
theorem GrV.only {g : Gr} (h : GrV lo hi w v g) {l r : Nat} (hb : Only l r w w') (hh : hi ≤ w.heap.size) (ho : hi ≤ l ∨ r ≤ lo) : GrV lo hi w' v g := by
  obtain ⟨vs, es, rfl, g1, g2⟩ := h
  exact ⟨vs, es, rfl, g1.only hb hh ho, g2.only hb hh ho⟩
theorem SSV.below {x : List (List Int)} (h : SSV lo hi w v x) {B : Nat} (hb : Below B w w') (hB : hi ≤ B) : SSV lo hi w' v x := by
  obtain ⟨vs, h1, h2, h3⟩ := h
  exact ⟨vs, h1.below hb hB, h2, fun i u xs hu hx => (h3 i u xs hu hx).below hb hB⟩
theorem SSV.shape {x : List (List Int)} (h : SSV lo hi w v x) : ∃ A n c, v = .slice A n c := by
  obtain ⟨vs, h1, _⟩ := h
  exact h1.shape
theorem AuV.shape {a : Au} (h : AuV lo hi w v a) : ∃ A1 n1 c1 A2 n2 c2, v = .agg #[.int .i64 a.start, .slice A1 n1 c1, .slice A2 n2 c2] := by
  obtain ⟨vs, es, rfl, h1, h2⟩ := h
  obtain ⟨A1, n1, c1, rfl⟩ := h1.shape
  obtain ⟨A2, n2, c2, rfl⟩ := h2.shape
  exact ⟨_, _, _, _, _, _, rfl⟩
theorem AuV.restart {A1 A2 : Option Addr} {n1 c1 n2 c2 : Nat} {a : Au} {s0 : Int} (h : AuV lo hi w (.agg #[.int .i64 s0, .slice A1 n1 c1, .slice A2 n2 c2]) a) (s : Int) : AuV lo hi w (.agg #[.int .i64 s, .slice A1 n1 c1, .slice A2 n2 c2]) ⟨s, a.accept, a.next⟩ := by
  obtain ⟨vs, es, hv, h1, h2⟩ := h
  injection hv with hv
  simp at hv
  obtain ⟨_, rfl, rfl⟩ := hv
  exact ⟨_, _, rfl, h1, h2⟩
theorem GrV.shape {g : Gr} (h : GrV lo hi w v g) : ∃ A1 n1 c1 A2 n2 c2, v = .agg #[.slice A1 n1 c1, .slice A2 n2 c2] := by
  obtain ⟨vs, es, rfl, h1, h2⟩ := h
  obtain ⟨A1, n1, c1, rfl⟩ := h1.shape
  obtain ⟨A2, n2, c2, rfl⟩ := h2.shape
  exact ⟨_, _, _, _, _, _, rfl⟩
theorem WkV.shape {k : Wk} (h : WkV lo hi w v k) : ∃ A1 n1 c1, v = .agg #[.int .i64 k.1, .slice A1 n1 c1] := by
  obtain ⟨vs, rfl, h1⟩ := h
  obtain ⟨A1, n1, c1, rfl⟩ := h1.shape
  exact ⟨_, _, _, rfl⟩
theorem SSV.mono {x : List (List Int)} (h : SSV lo hi w v x) {lo' hi' : Nat} (h1 : lo' ≤ lo) (h2 : hi ≤ hi') : SSV lo' hi' w v x := by
  obtain ⟨vs, g1, g2, g3⟩ := h
  exact ⟨vs, g1.mono h1 h2, g2, fun i u xs hu hx => (g3 i u xs hu hx).mono h1 h2⟩
theorem SSV.all {x : List (List Int)} (h : SSV lo hi w v x) (hh : hi ≤ w.heap.size) : SSV 0 w.heap.size w v x := h.mono (Nat.zero_le _) hh
theorem SSV.keep {x : List (List Int)} (h : SSV 0 w.heap.size w v x) (hb : Below w.heap.size w w') : SSV 0 w'.heap.size w' v x := (h.below hb (Nat.le_refl _)).mono (Nat.le_refl _) hb.size
theorem SSV.only {x : List (List Int)} (h : SSV lo hi w v x) {l r : Nat} (hb : Only l r w w') (hh : hi ≤ w.heap.size) (ho : hi ≤ l ∨ r ≤ lo) : SSV lo hi w' v x := by
  obtain ⟨vs, g1, g2, g3⟩ := h
  exact ⟨vs, g1.only hb hh ho, g2, fun i u xs hu hx => (g3 i u xs hu hx).only hb hh ho⟩
theorem AuV.below {a : Au} (h : AuV lo hi w v a) {B : Nat} (hb : Below B w w') (hB : hi ≤ B) : AuV lo hi w' v a := by
  obtain ⟨vs, es, rfl, h1, h2⟩ := h
  exact ⟨vs, es, rfl, h1.below hb hB, h2.below hb hB⟩
theorem AuV.mono {a : Au} (h : AuV lo hi w v a) {lo' hi' : Nat} (h1 : lo' ≤ lo) (h2 : hi ≤ hi') : AuV lo' hi' w v a := by
  obtain ⟨vs, es, rfl, g1, g2⟩ := h
  exact ⟨vs, es, rfl, g1.mono h1 h2, g2.mono h1 h2⟩
theorem AuV.all {a : Au} (h : AuV lo hi w v a) (hh : hi ≤ w.heap.size) : AuV 0 w.heap.size w v a := h.mono (Nat.zero_le _) hh
theorem AuV.keep {a : Au} (h : AuV 0 w.heap.size w v a) (hb : Below w.heap.size w w') : AuV 0 w'.heap.size w' v a := (h.below hb (Nat.le_refl _)).mono (Nat.le_refl _) hb.size
theorem AuV.only {a : Au} (h : AuV lo hi w v a) {l r : Nat} (hb : Only l r w w') (hh : hi ≤ w.heap.size) (ho : hi ≤ l ∨ r ≤ lo) : AuV lo hi w' v a := by
  obtain ⟨vs, es, rfl, g1, g2⟩ := h
  exact ⟨vs, es, rfl, g1.only hb hh ho, g2.only hb hh ho⟩
theorem WkV.below {a : Wk} (h : WkV lo hi w v a) {B : Nat} (hb : Below B w w') (hB : hi ≤ B) : WkV lo hi w' v a := by
  obtain ⟨vs, rfl, h1⟩ := h
  exact ⟨vs, rfl, h1.below hb hB⟩
theorem WkV.mono {a : Wk} (h : WkV lo hi w v a) {lo' hi' : Nat} (h1 : lo' ≤ lo) (h2 : hi ≤ hi') : WkV lo' hi' w v a := by
  obtain ⟨vs, rfl, g1⟩ := h
  exact ⟨vs, rfl, g1.mono h1 h2⟩
theorem WkV.all {a : Wk} (h : WkV lo hi w v a) (hh : hi ≤ w.heap.size) : WkV 0 w.heap.size w v a := h.mono (Nat.zero_le _) hh
theorem WkV.keep {a : Wk} (h : WkV 0 w.heap.size w v a) (hb : Below w.heap.size w w') : WkV 0 w'.heap.size w' v a := (h.below hb (Nat.le_refl _)).mono (Nat.le_refl _) hb.size
theorem WkV.only {a : Wk} (h : WkV lo hi w v a) {l r : Nat} (hb : Only l r w w') (hh : hi ≤ w.heap.size) (ho : hi ≤ l ∨ r ≤ lo) : WkV lo hi w' v a := by
  obtain ⟨vs, rfl, g1⟩ := h
  exact ⟨vs, rfl, g1.only hb hh ho⟩
end

theorem ret_int {k : IntKind} {a b : Int} (h : a = b) : Ending.returned (.int k a) = .returned (.int k b) := by rw [h]
theorem take_snoc {α : Type} {xs : List α} {k : Nat} {x : α} (hx : xs[k]? = some x) : xs.take (k + 1) = xs.take k ++ [x] := by
  rw [List.take_add_one, hx]; rfl
theorem take_eq_snoc {α : Type} {xs ys : List α} {k : Nat} {x y : α} (hx : xs[k]? = some x) (hy : ys[k]? = some y) : (xs.take (k + 1) = ys.take (k + 1)) ↔ (xs.take k = ys.take k ∧ x = y) := by
  rw [take_snoc hx, take_snoc hy]
  have hlx : (xs.take k).length = (ys.take k).length := by
    have h1 := (List.getElem?_eq_some_iff.1 hx).1
    have h2 := (List.getElem?_eq_some_iff.1 hy).1
    simp; omega
  constructor
  · intro h
    have := List.append_inj h hlx
    exact ⟨this.1, by simpa using this.2⟩
  · rintro ⟨h, rfl⟩
    rw [h]

end Go.Proofs.Ytallglnmeeahiaa

/- From a walk of a law ('returns true; below the heap's old size nothing has turned') to the statement's step: any number of parameters. -/
namespace Go.Proofs.Ytallglnmeeahiaa
set_option linter.unusedVariables false
set_option linter.unusedSimpArgs false
open Go.ChangeShapes Go.WideShapes Go.ChangeAt Go.RowKit

section
variable {H : Type} {enc : TypeId × Value → H} {P : Program}

theorem keep_all (hl : laidOutB P = true) {W W' : World} (hb : Below W.heap.size W W') : ∀ (ts : List TypeId), ts.all (fun t => P.readableRec t && decide (t < P.types.size)) = true →
    ∀ (vs : List Value) (ds : List (DataW H)) (ps : List MemPlace), DataW.TrodAll enc P W 0 (fun _ => true) true ts vs ds ps → ∀ sp : Nat → Bool, (∀ x ∈ ps, x.block < W.heap.size ∧ sp x.block = true) →
    DataW.TrodAll enc P W' 0 sp true ts vs ds ps := by
  intro ts
  induction ts with
  | nil =>
    intro _ vs ds ps h _ _
    obtain ⟨rfl, rfl, rfl⟩ := trodAll_nil h
    exact trodAll_mk0
  | cons t ts ih =>
    intro hr vs ds ps h sp hlt
    simp only [List.all_cons, Bool.and_eq_true, decide_eq_true_eq] at hr
    obtain ⟨v, vs', d, ds', p, q, rfl, rfl, rfl, h0, h1⟩ := trodAll_cons h
    exact trodAll_cons_mk (WideElems.Trod_stays hl hr.1.1 hr.1.2 h0 (fun x hx => hb.same (hlt x (List.mem_append_left _ hx)).1) (fun x hx => (hlt x (List.mem_append_left _ hx)).2)) (ih hr.2 _ _ _ h1 sp (fun x hx => hlt x (List.mem_append_right _ hx)))

theorem post_of_below {f : Func} {s : ChangeSpec} {apart fresh handsOn again : Bool} {W W' : World} {args : Array Value} {v : Value} {ds gs : List (DataW H)} {before pa pv : List MemPlace}
    (hW : DataW.Whole enc P f.params.toList s.vars apart W args.toList ds gs before)
    (hres : ∀ (b : Nat) (sp : Nat → Bool) (hd : Bool), DataW.TrodAll enc P W' b sp hd f.resultTypes.toList (v.resultList f.resultTypes.size) (s.fn H (ds ++ gs)).results [])
    (hargs : ∀ sp : Nat → Bool, (∀ p ∈ before, sp p.block = true) → DataW.TrodAll enc P W' 0 sp true f.params.toList args.toList (s.fn H (ds ++ gs)).args pa)
    (hvars : ∀ sp : Nat → Bool, (∀ p ∈ before, sp p.block = true) → DataW.TrodVars enc P W' sp s.vars (s.fn H (ds ++ gs)).vars pv)
    (hps : before = pa ++ pv) (hb : Below W.heap.size W W')
    (hok : ∀ (j : Nat) (t : TypeId) (r : Value), f.resultTypes[j]? = some t → (v.resultList f.resultTypes.size)[j]? = some r → Value.okWide P W' .any 0 t r) :
    s.post enc P f apart fresh handsOn again W args v W' := by
  have hlt : ∀ p ∈ before, p.block < W.heap.size := fun p hp => hW.lt p hp
  have hold : ∀ p ∈ before, (fun b => decide (b < W.heap.size)) p.block = true := fun p hp => by simpa using hlt p hp
  refine ⟨ds, gs, before, [], pa, pv, hW, hres _ _ _, hargs _ hold, hvars _ hold, World.keptBut_mono (fun p hp => ⟨hp, ?_⟩) (hb.frame (· ∈ before)), fun _ => ?_⟩
  · rw [hps, List.mem_append] at hp
    exact Or.inr hp
  · obtain ⟨_, _, _, _, _, hz, hn⟩ := hW
    refine ⟨hok, _, _, ([] ++ pa) ++ pv, ⟨[] ++ pa, pv, trodAll_append (hargs _ (fun _ _ => rfl)) (hres _ _ _), hvars _ (fun _ _ => rfl), rfl, ?_, ?_⟩, ?_⟩
    · intro b off hp
      have hin : MemPlace.cell b off ∈ before := by rw [hps]; simpa using hp
      rw [hb.frozen (hlt _ hin)]
      exact hz b off hin
    · intro ha
      have := hn ha
      rw [hps] at this
      simpa using this
    · intro p hp _
      rw [hps]
      simpa using hp

/-- THE LAW's STEP: its walk says 'true, and Below'. -/
theorem law_post {f : Func} {s : ChangeSpec} {tb : TypeId} (hl : laidOutB P = true) (hr : f.params.toList.all (fun t => P.readableRec t && decide (t < P.types.size)) = true) (hrt : f.resultTypes = #[tb]) (htb : P.underlying tb = some .bool)
    (hvars : s.vars = []) {W W' : World} {args : Array Value} {ds gs : List (DataW H)} {before : List MemPlace} (hfn : s.fn H (ds ++ gs) = { results := [.lit (.bool true)], args := ds })
    (hW : DataW.Whole enc P f.params.toList s.vars false W args.toList ds gs before) (hb : Below W.heap.size W W') :
    s.post enc P f false true false false W args (.bool true) W' := by
  have hW' := hW
  obtain ⟨p, q, hA, hV, hpq, _, _⟩ := hW
  rw [hvars] at hV
  obtain ⟨hgs, hq⟩ := trodVars_none hV
  subst hq
  have hlt : ∀ x ∈ before, x.block < W.heap.size := fun x hx => hW'.lt x hx
  have hbef : before = p ++ [] := hpq
  refine post_of_below (pa := p) (pv := []) hW' (fun b sp hd => ?_) (fun sp hsp => ?_) (fun sp _ => ?_) hbef hb ?_
  · rw [hfn, hrt]
    exact trodAll_cons_mk (shut_bool htb _) trodAll_mk0
  · rw [hfn]
    exact keep_all hl hb _ hr _ _ _ hA sp (fun x hx => ⟨hlt x (by rw [hbef]; simpa using hx), hsp x (by rw [hbef]; simpa using hx)⟩)
  · rw [hfn, hvars]
    exact rfl
  · exact ok_one (by rw [hrt]) rfl (okWide_bool_mk htb _)
end
end Go.Proofs.Ytallglnmeeahiaa

/- The laws' arguments, as they come in, read as plain data. -/
namespace Go.Proofs.Ytallglnmeeahiaa
set_option linter.unusedVariables false
set_option linter.unusedSimpArgs false
open Go.ChangeShapes Go.WideShapes Go.ChangeAt Go.RowKit Go.Deep Go.Joins
set_option maxRecDepth 100000

section
variable {H : Type} {enc : TypeId × Value → H} {P : Program} {w : World} {sp : Nat → Bool} {held : Bool}

theorem list_of {α : Type} {Q : Nat → α → Prop} : ∀ (n : Nat), (∀ i, i < n → ∃ x, Q i x) → ∃ xs : List α, xs.length = n ∧ ∀ i x, xs[i]? = some x → Q i x := by
  intro n
  induction n with
  | zero => intro _; exact ⟨[], rfl, by simp⟩
  | succ n ih =>
    intro h
    obtain ⟨xs, hl, hx⟩ := ih (fun i hi => h i (by omega))
    obtain ⟨x, hq⟩ := h n (by omega)
    refine ⟨xs ++ [x], by simp [hl], fun i y hy => ?_⟩
    by_cases hi : i < n
    · rw [List.getElem?_append_left (by omega)] at hy
      exact hx i y hy
    · have hin := (List.getElem?_eq_some_iff.1 hy).1
      simp only [List.length_append, List.length_cons, List.length_nil] at hin
      have : i = n := by omega
      subst this
      rw [List.getElem?_append_right (by omega), hl, Nat.sub_self] at hy
      simp at hy
      subst hy
      exact hq

theorem open_list {α : Type} (E : α → List Value) (k : Nat) (Rd : α → Prop) {t e : TypeId} {fuel : Nat} {v : Value} {y : DataW H × List MemPlace} (ht : P.underlying t = some (.slice e)) (hC : P.cellsOf e = k) (hk : 0 < k)
    (helem : ∀ (n : Nat) (cs : List Value) (y : DataW H × List MemPlace), cs.length = k → DataW.trod enc P w 0 sp held n e cs = some y → ∃ x, cs = E x ∧ Rd x)
    (h : DataW.trod enc P w 0 sp held fuel t [v] = some y) : ∃ xs, SlE w E k v xs ∧ ∀ x ∈ xs, Rd x := by
  rcases open_slice ht h with ⟨hcs, _⟩ | ⟨a, len, cap, m, n, D, Pl, hcs, _, hl, hm, hmm, _, hi⟩
  · have hv : v = .slice none 0 0 := by simpa using hcs
    subst hv
    exact ⟨[], SlI.nil _ _ _ _ _, by simp⟩
  · have hv : v = .slice (some a) len cap := by simpa using hcs
    subst hv
    have hlm : len ≤ m := by rw [hmm]; split <;> omega
    obtain ⟨xs, hxl, hx⟩ := list_of (Q := fun i x => Rd x ∧ ∀ j u, (E x)[j]? = some u → j < k ∧ w.cell? ((a.add (i * k)).add j) = some u) len (fun i hil => by
      obtain ⟨cs', hc, ht'⟩ := hi i (by omega)
      rw [hC] at hc
      obtain ⟨_, hcl, hat⟩ := World.cells?_some hc
      obtain ⟨x, rfl, hr⟩ := helem _ _ _ hcl ht'
      refine ⟨x, hr, fun j u hu => ?_⟩
      have hj : j < k := by have := (List.getElem?_eq_some_iff.1 hu).1; omega
      exact ⟨hj, (hat j hj).trans hu⟩)
    subst hxl
    refine ⟨xs, ⟨some a, cap, rfl, hl, hm, fun i x hix => ?_⟩, fun x hxm => ?_⟩
    · have hil := (List.getElem?_eq_some_iff.1 hix).1
      obtain ⟨cs', hc, ht'⟩ := hi i (by omega)
      rw [hC] at hc
      obtain ⟨_, hcl, hat⟩ := World.cells?_some hc
      obtain ⟨b, o, spot⟩ := a
      have h0 := hat 0 hk
      have hc0 : cs'[0]? = some (cs'[0]'(by omega)) := List.getElem?_eq_getElem (by omega)
      rw [hc0] at h0
      have hspot : spot = none := by
        obtain ⟨cs2, hc2, _⟩ := hi 0 (by omega)
        rw [hC] at hc2
        obtain ⟨_, hcl2, hat2⟩ := World.cells?_some hc2
        have h2 := hat2 0 hk
        rw [List.getElem?_eq_getElem (by omega)] at h2
        have := World.cell?_spot h2
        simpa [Addr.add] using this
      subst hspot
      have hadd : ∀ j, ((⟨b, o, none⟩ : Addr).add (i * k)).add j = ⟨b, o + i * k + j, none⟩ := fun j => by
        unfold Addr.add
        by_cases h1 : i * k = 0 <;> by_cases h2 : j = 0 <;> simp [h1, h2] <;> omega
      refine ⟨b, o, rfl, Nat.zero_le _, ?_, fun j u hu => ?_⟩
      · rw [hadd] at h0
        exact World.block_lt_of_cell? _ _ h0
      · have := ((hx i x hix).2 j u hu).2
        rw [hadd] at this
        exact this
    · obtain ⟨i, hil, hie⟩ := List.getElem_of_mem hxm
      exact (hx i x (by rw [List.getElem?_eq_getElem hil, hie])).1

theorem open_agg1 {r : Reach} {b0 : Nat} {t : TypeId} {f0 : Field} {v : Value} {d : DataW H} {p : List MemPlace} (hs : P.underlying t = some (.struct #[f0])) (hone : oneCellFields P #[f0] = true) (hC : P.cellsOf t = 1)
    (hv : Value.okWide P w r b0 t v) (h : DataW.Trod enc P w 0 sp held t v d p) :
    ∃ (v0 : Value) (y0 : DataW H × List MemPlace) (n : Nat), v = .agg #[v0] ∧ DataW.trod enc P w 0 sp held n f0.type [v0] = some y0 := by
  obtain ⟨cs, rfl, hsz⟩ := okWide_struct hs hv
  obtain ⟨c0, rfl⟩ : ∃ c0, cs = #[c0] := Array.size_eq_one_iff.1 (hsz.trans hC)
  obtain ⟨fuel, hf⟩ := h
  obtain ⟨xs, n, _, _, hl, hlen, hf⟩ := DataW.trod_struct hs hf
  obtain ⟨o0, k0⟩ := hone_of hone 0 f0 rfl
  match xs, hlen with
  | [y0], _ => exact ⟨c0, y0, n, rfl, by simpa [Value.cells, o0, k0] using hf 0 f0 rfl⟩
theorem array5 {α : Type} {cs : Array α} (h : cs.size = 5) : ∃ c0 c1 c2 c3 c4, cs = #[c0, c1, c2, c3, c4] := by
  obtain ⟨l⟩ := cs
  match l, h with
  | [c0, c1, c2, c3, c4], _ => exact ⟨c0, c1, c2, c3, c4, rfl⟩
theorem open_agg5 {r : Reach} {b0 : Nat} {t : TypeId} {f0 f1 f2 f3 f4 : Field} {v : Value} {d : DataW H} {p : List MemPlace} (hs : P.underlying t = some (.struct #[f0, f1, f2, f3, f4])) (hone : oneCellFields P #[f0, f1, f2, f3, f4] = true) (hC : P.cellsOf t = 5)
    (hv : Value.okWide P w r b0 t v) (h : DataW.Trod enc P w 0 sp held t v d p) :
    ∃ (v0 v1 v2 v3 v4 : Value) (y0 y1 y2 y3 y4 : DataW H × List MemPlace) (n : Nat), v = .agg #[v0, v1, v2, v3, v4] ∧
      DataW.trod enc P w 0 sp held n f0.type [v0] = some y0 ∧ DataW.trod enc P w 0 sp held n f1.type [v1] = some y1 ∧ DataW.trod enc P w 0 sp held n f2.type [v2] = some y2 ∧ DataW.trod enc P w 0 sp held n f3.type [v3] = some y3 ∧ DataW.trod enc P w 0 sp held n f4.type [v4] = some y4 := by
  obtain ⟨cs, rfl, hsz⟩ := okWide_struct hs hv
  obtain ⟨c0, c1, c2, c3, c4, rfl⟩ := array5 (hsz.trans hC)
  obtain ⟨fuel, hf⟩ := h
  obtain ⟨xs, n, _, _, hl, hlen, hf⟩ := DataW.trod_struct hs hf
  obtain ⟨o0, k0⟩ := hone_of hone 0 f0 rfl
  obtain ⟨o1, k1⟩ := hone_of hone 1 f1 rfl
  obtain ⟨o2, k2⟩ := hone_of hone 2 f2 rfl
  obtain ⟨o3, k3⟩ := hone_of hone 3 f3 rfl
  obtain ⟨o4, k4⟩ := hone_of hone 4 f4 rfl
  match xs, hlen with
  | [y0, y1, y2, y3, y4], _ => exact ⟨c0, c1, c2, c3, c4, y0, y1, y2, y3, y4, n, rfl, by simpa [Value.cells, o0, k0] using hf 0 f0 rfl, by simpa [Value.cells, o1, k1] using hf 1 f1 rfl, by simpa [Value.cells, o2, k2] using hf 2 f2 rfl, by simpa [Value.cells, o3, k3] using hf 3 f3 rfl, by simpa [Value.cells, o4, k4] using hf 4 f4 rfl⟩
theorem one_of_len {cs : List Value} (h : cs.length = 1) : ∃ u, cs = [u] := by
  match cs, h with
  | [u], _ => exact ⟨u, rfl⟩

theorem elem_int {e : TypeId} (he : P.underlying e = some (.int .i64)) : ∀ (n : Nat) (cs : List Value) (y : DataW H × List MemPlace), cs.length = 1 → DataW.trod enc P w 0 sp held n e cs = some y → ∃ x, cs = cI x ∧ (Lit.int .i64 x).wf = true := by
  intro n cs y _ h
  obtain ⟨x, h1, _, h3⟩ := DataW.trod_int he h
  exact ⟨x, h1, h3⟩
theorem elem_u8 {e : TypeId} (he : P.underlying e = some (.int .u8)) : ∀ (n : Nat) (cs : List Value) (y : DataW H × List MemPlace), cs.length = 1 → DataW.trod enc P w 0 sp held n e cs = some y → ∃ x, cs = cU x ∧ True := by
  intro n cs y _ h
  obtain ⟨x, h1, _⟩ := DataW.trod_int he h
  exact ⟨x, h1, trivial⟩
theorem elem_bool {e : TypeId} (he : P.underlying e = some .bool) : ∀ (n : Nat) (cs : List Value) (y : DataW H × List MemPlace), cs.length = 1 → DataW.trod enc P w 0 sp held n e cs = some y → ∃ x, cs = cB x ∧ True := by
  intro n cs y _ h
  obtain ⟨x, h1, _⟩ := DataW.trod_bool he h
  exact ⟨x, h1, trivial⟩
/-- a field of one cell out of a struct's cells -/
theorem field_of {e : TypeId} {fs : Array Field} {n : Nat} {cs : List Value} {y : DataW H × List MemPlace} (he : P.underlying e = some (.struct fs)) (hone : oneCellFields P fs = true) (hC : P.cellsOf e = fs.size)
    (h : DataW.trod enc P w 0 sp held n e cs = some y) (j : Nat) (f : Field) (hj : fs[j]? = some f) : ∃ (u : Value) (n' : Nat) (y' : DataW H × List MemPlace), cs[j]? = some u ∧ DataW.trod enc P w 0 sp held n' f.type [u] = some y' := by
  obtain ⟨ys, n', _, _, hlen, hyl, hf⟩ := DataW.trod_struct he h
  obtain ⟨ho, hk⟩ := hone_of hone j f hj
  have hjl : j < fs.size := (Array.getElem?_eq_some_iff.1 hj).1
  have h1 := hf j f hj
  rw [ho, hk] at h1
  have hone' : (cs.drop j).take 1 = [cs[j]'(by omega)] := by
    rw [List.drop_eq_getElem_cons (by omega)]
    rfl
  rw [hone'] at h1
  have hys : ys[j]? = some (ys[j]'(by omega)) := List.getElem?_eq_getElem (by omega)
  exact ⟨_, n', _, List.getElem?_eq_getElem (by omega), h1.trans hys⟩
theorem elem_pr {e f : TypeId} {f0 f1 : Field} (he : P.underlying e = some (.struct #[f0, f1])) (hone : oneCellFields P #[f0, f1] = true) (hC : P.cellsOf e = 2) (h0 : P.underlying f0.type = some (.int .i64)) (h1 : P.underlying f1.type = some (.int .i64)) :
    ∀ (n : Nat) (cs : List Value) (y : DataW H × List MemPlace), cs.length = 2 → DataW.trod enc P w 0 sp held n e cs = some y → ∃ x, cs = cPr x ∧ True := by
  intro n cs y hl h
  obtain ⟨u0, n0, y0, g0, k0⟩ := field_of he hone hC h 0 f0 rfl
  obtain ⟨u1, n1, y1, g1, k1⟩ := field_of he hone hC h 1 f1 rfl
  obtain ⟨a, ha, _⟩ := DataW.trod_int h0 k0
  obtain ⟨b, hb, _⟩ := DataW.trod_int h1 k1
  simp only [List.cons.injEq, and_true] at ha hb
  subst ha hb
  match cs, hl with
  | [c0, c1], _ =>
    simp at g0 g1
    subst g0 g1
    exact ⟨(a, b), rfl, trivial⟩
theorem elem_st {e f : TypeId} {f0 f1 : Field} (he : P.underlying e = some (.struct #[f0, f1])) (hone : oneCellFields P #[f0, f1] = true) (hC : P.cellsOf e = 2) (h0 : P.underlying f0.type = some (.int .i64)) (h1 : P.underlying f1.type = some .bool) :
    ∀ (n : Nat) (cs : List Value) (y : DataW H × List MemPlace), cs.length = 2 → DataW.trod enc P w 0 sp held n e cs = some y → ∃ x, cs = cSt x ∧ True := by
  intro n cs y hl h
  obtain ⟨u0, n0, y0, g0, k0⟩ := field_of he hone hC h 0 f0 rfl
  obtain ⟨u1, n1, y1, g1, k1⟩ := field_of he hone hC h 1 f1 rfl
  obtain ⟨a, ha, _⟩ := DataW.trod_int h0 k0
  obtain ⟨b, hb, _⟩ := DataW.trod_bool h1 k1
  simp only [List.cons.injEq, and_true] at ha hb
  subst ha hb
  match cs, hl with
  | [c0, c1], _ =>
    simp at g0 g1
    subst g0 g1
    exact ⟨(a, b), rfl, trivial⟩
theorem elem_ed {e f : TypeId} {f0 f1 f2 f3 : Field} (he : P.underlying e = some (.struct #[f0, f1, f2, f3])) (hone : oneCellFields P #[f0, f1, f2, f3] = true) (hC : P.cellsOf e = 4) (h0 : P.underlying f0.type = some (.int .i64)) (h1 : P.underlying f1.type = some (.int .i64)) (h2 : P.underlying f2.type = some (.int .i64)) (h3 : P.underlying f3.type = some (.int .i64)) :
    ∀ (n : Nat) (cs : List Value) (y : DataW H × List MemPlace), cs.length = 4 → DataW.trod enc P w 0 sp held n e cs = some y → ∃ x, cs = cEd x ∧ True := by
  intro n cs y hl h
  obtain ⟨u0, n0, y0, g0, k0⟩ := field_of he hone hC h 0 f0 rfl
  obtain ⟨u1, n1, y1, g1, k1⟩ := field_of he hone hC h 1 f1 rfl
  obtain ⟨u2, n2, y2, g2, k2⟩ := field_of he hone hC h 2 f2 rfl
  obtain ⟨u3, n3, y3, g3, k3⟩ := field_of he hone hC h 3 f3 rfl
  obtain ⟨a, ha, _⟩ := DataW.trod_int h0 k0
  obtain ⟨b, hb, _⟩ := DataW.trod_int h1 k1
  obtain ⟨c, hc, _⟩ := DataW.trod_int h2 k2
  obtain ⟨d, hd, _⟩ := DataW.trod_int h3 k3
  simp only [List.cons.injEq, and_true] at ha hb hc hd
  subst ha hb hc hd
  match cs, hl with
  | [c0, c1, c2, c3], _ =>
    simp at g0 g1 g2 g3
    subst g0 g1 g2 g3
    exact ⟨(a, b, c, d), rfl, trivial⟩
end

section
variable {H : Type} {enc : TypeId × Value → H} {w : World} {sp : Nat → Bool} {held : Bool} {b0 : Nat} {v : Value} {d : DataW H} {p : List MemPlace}
theorem openBytes (hv : Value.okWide Try.prog w .any b0 22 v) (h : DataW.Trod enc Try.prog w 0 sp held 22 v d p) : ∃ xs : List Int, SlE w cU 1 v xs := by
  obtain ⟨A, n, c, rfl⟩ := okWide_slice Try.underlying22 hv
  obtain ⟨fuel, hf⟩ := h
  obtain ⟨xs, hx, _⟩ := open_list cU 1 (fun _ => True) Try.underlying22 (by kernel_rfl) (by omega) (elem_u8 Try.underlying5) hf
  exact ⟨xs, hx⟩
end
end Go.Proofs.Ytallglnmeeahiaa

/- What a drawn region with calls that make memory keeps: a bound on the heap, and the cells named. -/
namespace Go.Proofs.Ytallglnmeeahiaa
set_option linter.unusedVariables false
set_option linter.unusedSimpArgs false
open Go.ChangeShapes Go.WideShapes Go.ChangeAt Go.RowKit

theorem hold1 {w w' w'' : World} {B : Nat} {p0 : Addr} {v0 : Value} (h0 : p0.block < B) (hB : Below w'.heap.size w' w'') (h : Below w.heap.size w w' ∧ B ≤ w'.heap.size ∧ w'.cell? p0 = some v0) : Below w.heap.size w w'' ∧ B ≤ w''.heap.size ∧ w''.cell? p0 = some v0 := by
  obtain ⟨hb, hs, c0⟩ := h
  exact ⟨below_trans hb hB, Nat.le_trans hs hB.size, (hB.cell (Nat.lt_of_lt_of_le h0 hs)).trans c0⟩
theorem hold2 {w w' w'' : World} {B : Nat} {p0 p1 : Addr} {v0 v1 : Value} (h0 : p0.block < B) (h1 : p1.block < B) (hB : Below w'.heap.size w' w'') (h : Below w.heap.size w w' ∧ B ≤ w'.heap.size ∧ w'.cell? p0 = some v0 ∧ w'.cell? p1 = some v1) : Below w.heap.size w w'' ∧ B ≤ w''.heap.size ∧ w''.cell? p0 = some v0 ∧ w''.cell? p1 = some v1 := by
  obtain ⟨hb, hs, c0, c1⟩ := h
  exact ⟨below_trans hb hB, Nat.le_trans hs hB.size, (hB.cell (Nat.lt_of_lt_of_le h0 hs)).trans c0, (hB.cell (Nat.lt_of_lt_of_le h1 hs)).trans c1⟩
theorem hold3 {w w' w'' : World} {B : Nat} {p0 p1 p2 : Addr} {v0 v1 v2 : Value} (h0 : p0.block < B) (h1 : p1.block < B) (h2 : p2.block < B) (hB : Below w'.heap.size w' w'') (h : Below w.heap.size w w' ∧ B ≤ w'.heap.size ∧ w'.cell? p0 = some v0 ∧ w'.cell? p1 = some v1 ∧ w'.cell? p2 = some v2) : Below w.heap.size w w'' ∧ B ≤ w''.heap.size ∧ w''.cell? p0 = some v0 ∧ w''.cell? p1 = some v1 ∧ w''.cell? p2 = some v2 := by
  obtain ⟨hb, hs, c0, c1, c2⟩ := h
  exact ⟨below_trans hb hB, Nat.le_trans hs hB.size, (hB.cell (Nat.lt_of_lt_of_le h0 hs)).trans c0, (hB.cell (Nat.lt_of_lt_of_le h1 hs)).trans c1, (hB.cell (Nat.lt_of_lt_of_le h2 hs)).trans c2⟩
theorem hold4 {w w' w'' : World} {B : Nat} {p0 p1 p2 p3 : Addr} {v0 v1 v2 v3 : Value} (h0 : p0.block < B) (h1 : p1.block < B) (h2 : p2.block < B) (h3 : p3.block < B) (hB : Below w'.heap.size w' w'') (h : Below w.heap.size w w' ∧ B ≤ w'.heap.size ∧ w'.cell? p0 = some v0 ∧ w'.cell? p1 = some v1 ∧ w'.cell? p2 = some v2 ∧ w'.cell? p3 = some v3) : Below w.heap.size w w'' ∧ B ≤ w''.heap.size ∧ w''.cell? p0 = some v0 ∧ w''.cell? p1 = some v1 ∧ w''.cell? p2 = some v2 ∧ w''.cell? p3 = some v3 := by
  obtain ⟨hb, hs, c0, c1, c2, c3⟩ := h
  exact ⟨below_trans hb hB, Nat.le_trans hs hB.size, (hB.cell (Nat.lt_of_lt_of_le h0 hs)).trans c0, (hB.cell (Nat.lt_of_lt_of_le h1 hs)).trans c1, (hB.cell (Nat.lt_of_lt_of_le h2 hs)).trans c2, (hB.cell (Nat.lt_of_lt_of_le h3 hs)).trans c3⟩
theorem hold5 {w w' w'' : World} {B : Nat} {p0 p1 p2 p3 p4 : Addr} {v0 v1 v2 v3 v4 : Value} (h0 : p0.block < B) (h1 : p1.block < B) (h2 : p2.block < B) (h3 : p3.block < B) (h4 : p4.block < B) (hB : Below w'.heap.size w' w'') (h : Below w.heap.size w w' ∧ B ≤ w'.heap.size ∧ w'.cell? p0 = some v0 ∧ w'.cell? p1 = some v1 ∧ w'.cell? p2 = some v2 ∧ w'.cell? p3 = some v3 ∧ w'.cell? p4 = some v4) : Below w.heap.size w w'' ∧ B ≤ w''.heap.size ∧ w''.cell? p0 = some v0 ∧ w''.cell? p1 = some v1 ∧ w''.cell? p2 = some v2 ∧ w''.cell? p3 = some v3 ∧ w''.cell? p4 = some v4 := by
  obtain ⟨hb, hs, c0, c1, c2, c3, c4⟩ := h
  exact ⟨below_trans hb hB, Nat.le_trans hs hB.size, (hB.cell (Nat.lt_of_lt_of_le h0 hs)).trans c0, (hB.cell (Nat.lt_of_lt_of_le h1 hs)).trans c1, (hB.cell (Nat.lt_of_lt_of_le h2 hs)).trans c2, (hB.cell (Nat.lt_of_lt_of_le h3 hs)).trans c3, (hB.cell (Nat.lt_of_lt_of_le h4 hs)).trans c4⟩
theorem hold6 {w w' w'' : World} {B : Nat} {p0 p1 p2 p3 p4 p5 : Addr} {v0 v1 v2 v3 v4 v5 : Value} (h0 : p0.block < B) (h1 : p1.block < B) (h2 : p2.block < B) (h3 : p3.block < B) (h4 : p4.block < B) (h5 : p5.block < B) (hB : Below w'.heap.size w' w'') (h : Below w.heap.size w w' ∧ B ≤ w'.heap.size ∧ w'.cell? p0 = some v0 ∧ w'.cell? p1 = some v1 ∧ w'.cell? p2 = some v2 ∧ w'.cell? p3 = some v3 ∧ w'.cell? p4 = some v4 ∧ w'.cell? p5 = some v5) : Below w.heap.size w w'' ∧ B ≤ w''.heap.size ∧ w''.cell? p0 = some v0 ∧ w''.cell? p1 = some v1 ∧ w''.cell? p2 = some v2 ∧ w''.cell? p3 = some v3 ∧ w''.cell? p4 = some v4 ∧ w''.cell? p5 = some v5 := by
  obtain ⟨hb, hs, c0, c1, c2, c3, c4, c5⟩ := h
  exact ⟨below_trans hb hB, Nat.le_trans hs hB.size, (hB.cell (Nat.lt_of_lt_of_le h0 hs)).trans c0, (hB.cell (Nat.lt_of_lt_of_le h1 hs)).trans c1, (hB.cell (Nat.lt_of_lt_of_le h2 hs)).trans c2, (hB.cell (Nat.lt_of_lt_of_le h3 hs)).trans c3, (hB.cell (Nat.lt_of_lt_of_le h4 hs)).trans c4, (hB.cell (Nat.lt_of_lt_of_le h5 hs)).trans c5⟩
theorem hold7 {w w' w'' : World} {B : Nat} {p0 p1 p2 p3 p4 p5 p6 : Addr} {v0 v1 v2 v3 v4 v5 v6 : Value} (h0 : p0.block < B) (h1 : p1.block < B) (h2 : p2.block < B) (h3 : p3.block < B) (h4 : p4.block < B) (h5 : p5.block < B) (h6 : p6.block < B) (hB : Below w'.heap.size w' w'') (h : Below w.heap.size w w' ∧ B ≤ w'.heap.size ∧ w'.cell? p0 = some v0 ∧ w'.cell? p1 = some v1 ∧ w'.cell? p2 = some v2 ∧ w'.cell? p3 = some v3 ∧ w'.cell? p4 = some v4 ∧ w'.cell? p5 = some v5 ∧ w'.cell? p6 = some v6) : Below w.heap.size w w'' ∧ B ≤ w''.heap.size ∧ w''.cell? p0 = some v0 ∧ w''.cell? p1 = some v1 ∧ w''.cell? p2 = some v2 ∧ w''.cell? p3 = some v3 ∧ w''.cell? p4 = some v4 ∧ w''.cell? p5 = some v5 ∧ w''.cell? p6 = some v6 := by
  obtain ⟨hb, hs, c0, c1, c2, c3, c4, c5, c6⟩ := h
  exact ⟨below_trans hb hB, Nat.le_trans hs hB.size, (hB.cell (Nat.lt_of_lt_of_le h0 hs)).trans c0, (hB.cell (Nat.lt_of_lt_of_le h1 hs)).trans c1, (hB.cell (Nat.lt_of_lt_of_le h2 hs)).trans c2, (hB.cell (Nat.lt_of_lt_of_le h3 hs)).trans c3, (hB.cell (Nat.lt_of_lt_of_le h4 hs)).trans c4, (hB.cell (Nat.lt_of_lt_of_le h5 hs)).trans c5, (hB.cell (Nat.lt_of_lt_of_le h6 hs)).trans c6⟩
theorem hold8 {w w' w'' : World} {B : Nat} {p0 p1 p2 p3 p4 p5 p6 p7 : Addr} {v0 v1 v2 v3 v4 v5 v6 v7 : Value} (h0 : p0.block < B) (h1 : p1.block < B) (h2 : p2.block < B) (h3 : p3.block < B) (h4 : p4.block < B) (h5 : p5.block < B) (h6 : p6.block < B) (h7 : p7.block < B) (hB : Below w'.heap.size w' w'') (h : Below w.heap.size w w' ∧ B ≤ w'.heap.size ∧ w'.cell? p0 = some v0 ∧ w'.cell? p1 = some v1 ∧ w'.cell? p2 = some v2 ∧ w'.cell? p3 = some v3 ∧ w'.cell? p4 = some v4 ∧ w'.cell? p5 = some v5 ∧ w'.cell? p6 = some v6 ∧ w'.cell? p7 = some v7) : Below w.heap.size w w'' ∧ B ≤ w''.heap.size ∧ w''.cell? p0 = some v0 ∧ w''.cell? p1 = some v1 ∧ w''.cell? p2 = some v2 ∧ w''.cell? p3 = some v3 ∧ w''.cell? p4 = some v4 ∧ w''.cell? p5 = some v5 ∧ w''.cell? p6 = some v6 ∧ w''.cell? p7 = some v7 := by
  obtain ⟨hb, hs, c0, c1, c2, c3, c4, c5, c6, c7⟩ := h
  exact ⟨below_trans hb hB, Nat.le_trans hs hB.size, (hB.cell (Nat.lt_of_lt_of_le h0 hs)).trans c0, (hB.cell (Nat.lt_of_lt_of_le h1 hs)).trans c1, (hB.cell (Nat.lt_of_lt_of_le h2 hs)).trans c2, (hB.cell (Nat.lt_of_lt_of_le h3 hs)).trans c3, (hB.cell (Nat.lt_of_lt_of_le h4 hs)).trans c4, (hB.cell (Nat.lt_of_lt_of_le h5 hs)).trans c5, (hB.cell (Nat.lt_of_lt_of_le h6 hs)).trans c6, (hB.cell (Nat.lt_of_lt_of_le h7 hs)).trans c7⟩
theorem hold9 {w w' w'' : World} {B : Nat} {p0 p1 p2 p3 p4 p5 p6 p7 p8 : Addr} {v0 v1 v2 v3 v4 v5 v6 v7 v8 : Value} (h0 : p0.block < B) (h1 : p1.block < B) (h2 : p2.block < B) (h3 : p3.block < B) (h4 : p4.block < B) (h5 : p5.block < B) (h6 : p6.block < B) (h7 : p7.block < B) (h8 : p8.block < B) (hB : Below w'.heap.size w' w'') (h : Below w.heap.size w w' ∧ B ≤ w'.heap.size ∧ w'.cell? p0 = some v0 ∧ w'.cell? p1 = some v1 ∧ w'.cell? p2 = some v2 ∧ w'.cell? p3 = some v3 ∧ w'.cell? p4 = some v4 ∧ w'.cell? p5 = some v5 ∧ w'.cell? p6 = some v6 ∧ w'.cell? p7 = some v7 ∧ w'.cell? p8 = some v8) : Below w.heap.size w w'' ∧ B ≤ w''.heap.size ∧ w''.cell? p0 = some v0 ∧ w''.cell? p1 = some v1 ∧ w''.cell? p2 = some v2 ∧ w''.cell? p3 = some v3 ∧ w''.cell? p4 = some v4 ∧ w''.cell? p5 = some v5 ∧ w''.cell? p6 = some v6 ∧ w''.cell? p7 = some v7 ∧ w''.cell? p8 = some v8 := by
  obtain ⟨hb, hs, c0, c1, c2, c3, c4, c5, c6, c7, c8⟩ := h
  exact ⟨below_trans hb hB, Nat.le_trans hs hB.size, (hB.cell (Nat.lt_of_lt_of_le h0 hs)).trans c0, (hB.cell (Nat.lt_of_lt_of_le h1 hs)).trans c1, (hB.cell (Nat.lt_of_lt_of_le h2 hs)).trans c2, (hB.cell (Nat.lt_of_lt_of_le h3 hs)).trans c3, (hB.cell (Nat.lt_of_lt_of_le h4 hs)).trans c4, (hB.cell (Nat.lt_of_lt_of_le h5 hs)).trans c5, (hB.cell (Nat.lt_of_lt_of_le h6 hs)).trans c6, (hB.cell (Nat.lt_of_lt_of_le h7 hs)).trans c7, (hB.cell (Nat.lt_of_lt_of_le h8 hs)).trans c8⟩
theorem hold10 {w w' w'' : World} {B : Nat} {p0 p1 p2 p3 p4 p5 p6 p7 p8 p9 : Addr} {v0 v1 v2 v3 v4 v5 v6 v7 v8 v9 : Value} (h0 : p0.block < B) (h1 : p1.block < B) (h2 : p2.block < B) (h3 : p3.block < B) (h4 : p4.block < B) (h5 : p5.block < B) (h6 : p6.block < B) (h7 : p7.block < B) (h8 : p8.block < B) (h9 : p9.block < B) (hB : Below w'.heap.size w' w'') (h : Below w.heap.size w w' ∧ B ≤ w'.heap.size ∧ w'.cell? p0 = some v0 ∧ w'.cell? p1 = some v1 ∧ w'.cell? p2 = some v2 ∧ w'.cell? p3 = some v3 ∧ w'.cell? p4 = some v4 ∧ w'.cell? p5 = some v5 ∧ w'.cell? p6 = some v6 ∧ w'.cell? p7 = some v7 ∧ w'.cell? p8 = some v8 ∧ w'.cell? p9 = some v9) : Below w.heap.size w w'' ∧ B ≤ w''.heap.size ∧ w''.cell? p0 = some v0 ∧ w''.cell? p1 = some v1 ∧ w''.cell? p2 = some v2 ∧ w''.cell? p3 = some v3 ∧ w''.cell? p4 = some v4 ∧ w''.cell? p5 = some v5 ∧ w''.cell? p6 = some v6 ∧ w''.cell? p7 = some v7 ∧ w''.cell? p8 = some v8 ∧ w''.cell? p9 = some v9 := by
  obtain ⟨hb, hs, c0, c1, c2, c3, c4, c5, c6, c7, c8, c9⟩ := h
  exact ⟨below_trans hb hB, Nat.le_trans hs hB.size, (hB.cell (Nat.lt_of_lt_of_le h0 hs)).trans c0, (hB.cell (Nat.lt_of_lt_of_le h1 hs)).trans c1, (hB.cell (Nat.lt_of_lt_of_le h2 hs)).trans c2, (hB.cell (Nat.lt_of_lt_of_le h3 hs)).trans c3, (hB.cell (Nat.lt_of_lt_of_le h4 hs)).trans c4, (hB.cell (Nat.lt_of_lt_of_le h5 hs)).trans c5, (hB.cell (Nat.lt_of_lt_of_le h6 hs)).trans c6, (hB.cell (Nat.lt_of_lt_of_le h7 hs)).trans c7, (hB.cell (Nat.lt_of_lt_of_le h8 hs)).trans c8, (hB.cell (Nat.lt_of_lt_of_le h9 hs)).trans c9⟩
theorem hold11 {w w' w'' : World} {B : Nat} {p0 p1 p2 p3 p4 p5 p6 p7 p8 p9 p10 : Addr} {v0 v1 v2 v3 v4 v5 v6 v7 v8 v9 v10 : Value} (h0 : p0.block < B) (h1 : p1.block < B) (h2 : p2.block < B) (h3 : p3.block < B) (h4 : p4.block < B) (h5 : p5.block < B) (h6 : p6.block < B) (h7 : p7.block < B) (h8 : p8.block < B) (h9 : p9.block < B) (h10 : p10.block < B) (hB : Below w'.heap.size w' w'') (h : Below w.heap.size w w' ∧ B ≤ w'.heap.size ∧ w'.cell? p0 = some v0 ∧ w'.cell? p1 = some v1 ∧ w'.cell? p2 = some v2 ∧ w'.cell? p3 = some v3 ∧ w'.cell? p4 = some v4 ∧ w'.cell? p5 = some v5 ∧ w'.cell? p6 = some v6 ∧ w'.cell? p7 = some v7 ∧ w'.cell? p8 = some v8 ∧ w'.cell? p9 = some v9 ∧ w'.cell? p10 = some v10) : Below w.heap.size w w'' ∧ B ≤ w''.heap.size ∧ w''.cell? p0 = some v0 ∧ w''.cell? p1 = some v1 ∧ w''.cell? p2 = some v2 ∧ w''.cell? p3 = some v3 ∧ w''.cell? p4 = some v4 ∧ w''.cell? p5 = some v5 ∧ w''.cell? p6 = some v6 ∧ w''.cell? p7 = some v7 ∧ w''.cell? p8 = some v8 ∧ w''.cell? p9 = some v9 ∧ w''.cell? p10 = some v10 := by
  obtain ⟨hb, hs, c0, c1, c2, c3, c4, c5, c6, c7, c8, c9, c10⟩ := h
  exact ⟨below_trans hb hB, Nat.le_trans hs hB.size, (hB.cell (Nat.lt_of_lt_of_le h0 hs)).trans c0, (hB.cell (Nat.lt_of_lt_of_le h1 hs)).trans c1, (hB.cell (Nat.lt_of_lt_of_le h2 hs)).trans c2, (hB.cell (Nat.lt_of_lt_of_le h3 hs)).trans c3, (hB.cell (Nat.lt_of_lt_of_le h4 hs)).trans c4, (hB.cell (Nat.lt_of_lt_of_le h5 hs)).trans c5, (hB.cell (Nat.lt_of_lt_of_le h6 hs)).trans c6, (hB.cell (Nat.lt_of_lt_of_le h7 hs)).trans c7, (hB.cell (Nat.lt_of_lt_of_le h8 hs)).trans c8, (hB.cell (Nat.lt_of_lt_of_le h9 hs)).trans c9, (hB.cell (Nat.lt_of_lt_of_le h10 hs)).trans c10⟩
theorem hold12 {w w' w'' : World} {B : Nat} {p0 p1 p2 p3 p4 p5 p6 p7 p8 p9 p10 p11 : Addr} {v0 v1 v2 v3 v4 v5 v6 v7 v8 v9 v10 v11 : Value} (h0 : p0.block < B) (h1 : p1.block < B) (h2 : p2.block < B) (h3 : p3.block < B) (h4 : p4.block < B) (h5 : p5.block < B) (h6 : p6.block < B) (h7 : p7.block < B) (h8 : p8.block < B) (h9 : p9.block < B) (h10 : p10.block < B) (h11 : p11.block < B) (hB : Below w'.heap.size w' w'') (h : Below w.heap.size w w' ∧ B ≤ w'.heap.size ∧ w'.cell? p0 = some v0 ∧ w'.cell? p1 = some v1 ∧ w'.cell? p2 = some v2 ∧ w'.cell? p3 = some v3 ∧ w'.cell? p4 = some v4 ∧ w'.cell? p5 = some v5 ∧ w'.cell? p6 = some v6 ∧ w'.cell? p7 = some v7 ∧ w'.cell? p8 = some v8 ∧ w'.cell? p9 = some v9 ∧ w'.cell? p10 = some v10 ∧ w'.cell? p11 = some v11) : Below w.heap.size w w'' ∧ B ≤ w''.heap.size ∧ w''.cell? p0 = some v0 ∧ w''.cell? p1 = some v1 ∧ w''.cell? p2 = some v2 ∧ w''.cell? p3 = some v3 ∧ w''.cell? p4 = some v4 ∧ w''.cell? p5 = some v5 ∧ w''.cell? p6 = some v6 ∧ w''.cell? p7 = some v7 ∧ w''.cell? p8 = some v8 ∧ w''.cell? p9 = some v9 ∧ w''.cell? p10 = some v10 ∧ w''.cell? p11 = some v11 := by
  obtain ⟨hb, hs, c0, c1, c2, c3, c4, c5, c6, c7, c8, c9, c10, c11⟩ := h
  exact ⟨below_trans hb hB, Nat.le_trans hs hB.size, (hB.cell (Nat.lt_of_lt_of_le h0 hs)).trans c0, (hB.cell (Nat.lt_of_lt_of_le h1 hs)).trans c1, (hB.cell (Nat.lt_of_lt_of_le h2 hs)).trans c2, (hB.cell (Nat.lt_of_lt_of_le h3 hs)).trans c3, (hB.cell (Nat.lt_of_lt_of_le h4 hs)).trans c4, (hB.cell (Nat.lt_of_lt_of_le h5 hs)).trans c5, (hB.cell (Nat.lt_of_lt_of_le h6 hs)).trans c6, (hB.cell (Nat.lt_of_lt_of_le h7 hs)).trans c7, (hB.cell (Nat.lt_of_lt_of_le h8 hs)).trans c8, (hB.cell (Nat.lt_of_lt_of_le h9 hs)).trans c9, (hB.cell (Nat.lt_of_lt_of_le h10 hs)).trans c10, (hB.cell (Nat.lt_of_lt_of_le h11 hs)).trans c11⟩
theorem hold13 {w w' w'' : World} {B : Nat} {p0 p1 p2 p3 p4 p5 p6 p7 p8 p9 p10 p11 p12 : Addr} {v0 v1 v2 v3 v4 v5 v6 v7 v8 v9 v10 v11 v12 : Value} (h0 : p0.block < B) (h1 : p1.block < B) (h2 : p2.block < B) (h3 : p3.block < B) (h4 : p4.block < B) (h5 : p5.block < B) (h6 : p6.block < B) (h7 : p7.block < B) (h8 : p8.block < B) (h9 : p9.block < B) (h10 : p10.block < B) (h11 : p11.block < B) (h12 : p12.block < B) (hB : Below w'.heap.size w' w'') (h : Below w.heap.size w w' ∧ B ≤ w'.heap.size ∧ w'.cell? p0 = some v0 ∧ w'.cell? p1 = some v1 ∧ w'.cell? p2 = some v2 ∧ w'.cell? p3 = some v3 ∧ w'.cell? p4 = some v4 ∧ w'.cell? p5 = some v5 ∧ w'.cell? p6 = some v6 ∧ w'.cell? p7 = some v7 ∧ w'.cell? p8 = some v8 ∧ w'.cell? p9 = some v9 ∧ w'.cell? p10 = some v10 ∧ w'.cell? p11 = some v11 ∧ w'.cell? p12 = some v12) : Below w.heap.size w w'' ∧ B ≤ w''.heap.size ∧ w''.cell? p0 = some v0 ∧ w''.cell? p1 = some v1 ∧ w''.cell? p2 = some v2 ∧ w''.cell? p3 = some v3 ∧ w''.cell? p4 = some v4 ∧ w''.cell? p5 = some v5 ∧ w''.cell? p6 = some v6 ∧ w''.cell? p7 = some v7 ∧ w''.cell? p8 = some v8 ∧ w''.cell? p9 = some v9 ∧ w''.cell? p10 = some v10 ∧ w''.cell? p11 = some v11 ∧ w''.cell? p12 = some v12 := by
  obtain ⟨hb, hs, c0, c1, c2, c3, c4, c5, c6, c7, c8, c9, c10, c11, c12⟩ := h
  exact ⟨below_trans hb hB, Nat.le_trans hs hB.size, (hB.cell (Nat.lt_of_lt_of_le h0 hs)).trans c0, (hB.cell (Nat.lt_of_lt_of_le h1 hs)).trans c1, (hB.cell (Nat.lt_of_lt_of_le h2 hs)).trans c2, (hB.cell (Nat.lt_of_lt_of_le h3 hs)).trans c3, (hB.cell (Nat.lt_of_lt_of_le h4 hs)).trans c4, (hB.cell (Nat.lt_of_lt_of_le h5 hs)).trans c5, (hB.cell (Nat.lt_of_lt_of_le h6 hs)).trans c6, (hB.cell (Nat.lt_of_lt_of_le h7 hs)).trans c7, (hB.cell (Nat.lt_of_lt_of_le h8 hs)).trans c8, (hB.cell (Nat.lt_of_lt_of_le h9 hs)).trans c9, (hB.cell (Nat.lt_of_lt_of_le h10 hs)).trans c10, (hB.cell (Nat.lt_of_lt_of_le h11 hs)).trans c11, (hB.cell (Nat.lt_of_lt_of_le h12 hs)).trans c12⟩
theorem hold14 {w w' w'' : World} {B : Nat} {p0 p1 p2 p3 p4 p5 p6 p7 p8 p9 p10 p11 p12 p13 : Addr} {v0 v1 v2 v3 v4 v5 v6 v7 v8 v9 v10 v11 v12 v13 : Value} (h0 : p0.block < B) (h1 : p1.block < B) (h2 : p2.block < B) (h3 : p3.block < B) (h4 : p4.block < B) (h5 : p5.block < B) (h6 : p6.block < B) (h7 : p7.block < B) (h8 : p8.block < B) (h9 : p9.block < B) (h10 : p10.block < B) (h11 : p11.block < B) (h12 : p12.block < B) (h13 : p13.block < B) (hB : Below w'.heap.size w' w'') (h : Below w.heap.size w w' ∧ B ≤ w'.heap.size ∧ w'.cell? p0 = some v0 ∧ w'.cell? p1 = some v1 ∧ w'.cell? p2 = some v2 ∧ w'.cell? p3 = some v3 ∧ w'.cell? p4 = some v4 ∧ w'.cell? p5 = some v5 ∧ w'.cell? p6 = some v6 ∧ w'.cell? p7 = some v7 ∧ w'.cell? p8 = some v8 ∧ w'.cell? p9 = some v9 ∧ w'.cell? p10 = some v10 ∧ w'.cell? p11 = some v11 ∧ w'.cell? p12 = some v12 ∧ w'.cell? p13 = some v13) : Below w.heap.size w w'' ∧ B ≤ w''.heap.size ∧ w''.cell? p0 = some v0 ∧ w''.cell? p1 = some v1 ∧ w''.cell? p2 = some v2 ∧ w''.cell? p3 = some v3 ∧ w''.cell? p4 = some v4 ∧ w''.cell? p5 = some v5 ∧ w''.cell? p6 = some v6 ∧ w''.cell? p7 = some v7 ∧ w''.cell? p8 = some v8 ∧ w''.cell? p9 = some v9 ∧ w''.cell? p10 = some v10 ∧ w''.cell? p11 = some v11 ∧ w''.cell? p12 = some v12 ∧ w''.cell? p13 = some v13 := by
  obtain ⟨hb, hs, c0, c1, c2, c3, c4, c5, c6, c7, c8, c9, c10, c11, c12, c13⟩ := h
  exact ⟨below_trans hb hB, Nat.le_trans hs hB.size, (hB.cell (Nat.lt_of_lt_of_le h0 hs)).trans c0, (hB.cell (Nat.lt_of_lt_of_le h1 hs)).trans c1, (hB.cell (Nat.lt_of_lt_of_le h2 hs)).trans c2, (hB.cell (Nat.lt_of_lt_of_le h3 hs)).trans c3, (hB.cell (Nat.lt_of_lt_of_le h4 hs)).trans c4, (hB.cell (Nat.lt_of_lt_of_le h5 hs)).trans c5, (hB.cell (Nat.lt_of_lt_of_le h6 hs)).trans c6, (hB.cell (Nat.lt_of_lt_of_le h7 hs)).trans c7, (hB.cell (Nat.lt_of_lt_of_le h8 hs)).trans c8, (hB.cell (Nat.lt_of_lt_of_le h9 hs)).trans c9, (hB.cell (Nat.lt_of_lt_of_le h10 hs)).trans c10, (hB.cell (Nat.lt_of_lt_of_le h11 hs)).trans c11, (hB.cell (Nat.lt_of_lt_of_le h12 hs)).trans c12, (hB.cell (Nat.lt_of_lt_of_le h13 hs)).trans c13⟩
theorem hold15 {w w' w'' : World} {B : Nat} {p0 p1 p2 p3 p4 p5 p6 p7 p8 p9 p10 p11 p12 p13 p14 : Addr} {v0 v1 v2 v3 v4 v5 v6 v7 v8 v9 v10 v11 v12 v13 v14 : Value} (h0 : p0.block < B) (h1 : p1.block < B) (h2 : p2.block < B) (h3 : p3.block < B) (h4 : p4.block < B) (h5 : p5.block < B) (h6 : p6.block < B) (h7 : p7.block < B) (h8 : p8.block < B) (h9 : p9.block < B) (h10 : p10.block < B) (h11 : p11.block < B) (h12 : p12.block < B) (h13 : p13.block < B) (h14 : p14.block < B) (hB : Below w'.heap.size w' w'') (h : Below w.heap.size w w' ∧ B ≤ w'.heap.size ∧ w'.cell? p0 = some v0 ∧ w'.cell? p1 = some v1 ∧ w'.cell? p2 = some v2 ∧ w'.cell? p3 = some v3 ∧ w'.cell? p4 = some v4 ∧ w'.cell? p5 = some v5 ∧ w'.cell? p6 = some v6 ∧ w'.cell? p7 = some v7 ∧ w'.cell? p8 = some v8 ∧ w'.cell? p9 = some v9 ∧ w'.cell? p10 = some v10 ∧ w'.cell? p11 = some v11 ∧ w'.cell? p12 = some v12 ∧ w'.cell? p13 = some v13 ∧ w'.cell? p14 = some v14) : Below w.heap.size w w'' ∧ B ≤ w''.heap.size ∧ w''.cell? p0 = some v0 ∧ w''.cell? p1 = some v1 ∧ w''.cell? p2 = some v2 ∧ w''.cell? p3 = some v3 ∧ w''.cell? p4 = some v4 ∧ w''.cell? p5 = some v5 ∧ w''.cell? p6 = some v6 ∧ w''.cell? p7 = some v7 ∧ w''.cell? p8 = some v8 ∧ w''.cell? p9 = some v9 ∧ w''.cell? p10 = some v10 ∧ w''.cell? p11 = some v11 ∧ w''.cell? p12 = some v12 ∧ w''.cell? p13 = some v13 ∧ w''.cell? p14 = some v14 := by
  obtain ⟨hb, hs, c0, c1, c2, c3, c4, c5, c6, c7, c8, c9, c10, c11, c12, c13, c14⟩ := h
  exact ⟨below_trans hb hB, Nat.le_trans hs hB.size, (hB.cell (Nat.lt_of_lt_of_le h0 hs)).trans c0, (hB.cell (Nat.lt_of_lt_of_le h1 hs)).trans c1, (hB.cell (Nat.lt_of_lt_of_le h2 hs)).trans c2, (hB.cell (Nat.lt_of_lt_of_le h3 hs)).trans c3, (hB.cell (Nat.lt_of_lt_of_le h4 hs)).trans c4, (hB.cell (Nat.lt_of_lt_of_le h5 hs)).trans c5, (hB.cell (Nat.lt_of_lt_of_le h6 hs)).trans c6, (hB.cell (Nat.lt_of_lt_of_le h7 hs)).trans c7, (hB.cell (Nat.lt_of_lt_of_le h8 hs)).trans c8, (hB.cell (Nat.lt_of_lt_of_le h9 hs)).trans c9, (hB.cell (Nat.lt_of_lt_of_le h10 hs)).trans c10, (hB.cell (Nat.lt_of_lt_of_le h11 hs)).trans c11, (hB.cell (Nat.lt_of_lt_of_le h12 hs)).trans c12, (hB.cell (Nat.lt_of_lt_of_le h13 hs)).trans c13, (hB.cell (Nat.lt_of_lt_of_le h14 hs)).trans c14⟩
theorem hold16 {w w' w'' : World} {B : Nat} {p0 p1 p2 p3 p4 p5 p6 p7 p8 p9 p10 p11 p12 p13 p14 p15 : Addr} {v0 v1 v2 v3 v4 v5 v6 v7 v8 v9 v10 v11 v12 v13 v14 v15 : Value} (h0 : p0.block < B) (h1 : p1.block < B) (h2 : p2.block < B) (h3 : p3.block < B) (h4 : p4.block < B) (h5 : p5.block < B) (h6 : p6.block < B) (h7 : p7.block < B) (h8 : p8.block < B) (h9 : p9.block < B) (h10 : p10.block < B) (h11 : p11.block < B) (h12 : p12.block < B) (h13 : p13.block < B) (h14 : p14.block < B) (h15 : p15.block < B) (hB : Below w'.heap.size w' w'') (h : Below w.heap.size w w' ∧ B ≤ w'.heap.size ∧ w'.cell? p0 = some v0 ∧ w'.cell? p1 = some v1 ∧ w'.cell? p2 = some v2 ∧ w'.cell? p3 = some v3 ∧ w'.cell? p4 = some v4 ∧ w'.cell? p5 = some v5 ∧ w'.cell? p6 = some v6 ∧ w'.cell? p7 = some v7 ∧ w'.cell? p8 = some v8 ∧ w'.cell? p9 = some v9 ∧ w'.cell? p10 = some v10 ∧ w'.cell? p11 = some v11 ∧ w'.cell? p12 = some v12 ∧ w'.cell? p13 = some v13 ∧ w'.cell? p14 = some v14 ∧ w'.cell? p15 = some v15) : Below w.heap.size w w'' ∧ B ≤ w''.heap.size ∧ w''.cell? p0 = some v0 ∧ w''.cell? p1 = some v1 ∧ w''.cell? p2 = some v2 ∧ w''.cell? p3 = some v3 ∧ w''.cell? p4 = some v4 ∧ w''.cell? p5 = some v5 ∧ w''.cell? p6 = some v6 ∧ w''.cell? p7 = some v7 ∧ w''.cell? p8 = some v8 ∧ w''.cell? p9 = some v9 ∧ w''.cell? p10 = some v10 ∧ w''.cell? p11 = some v11 ∧ w''.cell? p12 = some v12 ∧ w''.cell? p13 = some v13 ∧ w''.cell? p14 = some v14 ∧ w''.cell? p15 = some v15 := by
  obtain ⟨hb, hs, c0, c1, c2, c3, c4, c5, c6, c7, c8, c9, c10, c11, c12, c13, c14, c15⟩ := h
  exact ⟨below_trans hb hB, Nat.le_trans hs hB.size, (hB.cell (Nat.lt_of_lt_of_le h0 hs)).trans c0, (hB.cell (Nat.lt_of_lt_of_le h1 hs)).trans c1, (hB.cell (Nat.lt_of_lt_of_le h2 hs)).trans c2, (hB.cell (Nat.lt_of_lt_of_le h3 hs)).trans c3, (hB.cell (Nat.lt_of_lt_of_le h4 hs)).trans c4, (hB.cell (Nat.lt_of_lt_of_le h5 hs)).trans c5, (hB.cell (Nat.lt_of_lt_of_le h6 hs)).trans c6, (hB.cell (Nat.lt_of_lt_of_le h7 hs)).trans c7, (hB.cell (Nat.lt_of_lt_of_le h8 hs)).trans c8, (hB.cell (Nat.lt_of_lt_of_le h9 hs)).trans c9, (hB.cell (Nat.lt_of_lt_of_le h10 hs)).trans c10, (hB.cell (Nat.lt_of_lt_of_le h11 hs)).trans c11, (hB.cell (Nat.lt_of_lt_of_le h12 hs)).trans c12, (hB.cell (Nat.lt_of_lt_of_le h13 hs)).trans c13, (hB.cell (Nat.lt_of_lt_of_le h14 hs)).trans c14, (hB.cell (Nat.lt_of_lt_of_le h15 hs)).trans c15⟩
theorem hold17 {w w' w'' : World} {B : Nat} {p0 p1 p2 p3 p4 p5 p6 p7 p8 p9 p10 p11 p12 p13 p14 p15 p16 : Addr} {v0 v1 v2 v3 v4 v5 v6 v7 v8 v9 v10 v11 v12 v13 v14 v15 v16 : Value} (h0 : p0.block < B) (h1 : p1.block < B) (h2 : p2.block < B) (h3 : p3.block < B) (h4 : p4.block < B) (h5 : p5.block < B) (h6 : p6.block < B) (h7 : p7.block < B) (h8 : p8.block < B) (h9 : p9.block < B) (h10 : p10.block < B) (h11 : p11.block < B) (h12 : p12.block < B) (h13 : p13.block < B) (h14 : p14.block < B) (h15 : p15.block < B) (h16 : p16.block < B) (hB : Below w'.heap.size w' w'') (h : Below w.heap.size w w' ∧ B ≤ w'.heap.size ∧ w'.cell? p0 = some v0 ∧ w'.cell? p1 = some v1 ∧ w'.cell? p2 = some v2 ∧ w'.cell? p3 = some v3 ∧ w'.cell? p4 = some v4 ∧ w'.cell? p5 = some v5 ∧ w'.cell? p6 = some v6 ∧ w'.cell? p7 = some v7 ∧ w'.cell? p8 = some v8 ∧ w'.cell? p9 = some v9 ∧ w'.cell? p10 = some v10 ∧ w'.cell? p11 = some v11 ∧ w'.cell? p12 = some v12 ∧ w'.cell? p13 = some v13 ∧ w'.cell? p14 = some v14 ∧ w'.cell? p15 = some v15 ∧ w'.cell? p16 = some v16) : Below w.heap.size w w'' ∧ B ≤ w''.heap.size ∧ w''.cell? p0 = some v0 ∧ w''.cell? p1 = some v1 ∧ w''.cell? p2 = some v2 ∧ w''.cell? p3 = some v3 ∧ w''.cell? p4 = some v4 ∧ w''.cell? p5 = some v5 ∧ w''.cell? p6 = some v6 ∧ w''.cell? p7 = some v7 ∧ w''.cell? p8 = some v8 ∧ w''.cell? p9 = some v9 ∧ w''.cell? p10 = some v10 ∧ w''.cell? p11 = some v11 ∧ w''.cell? p12 = some v12 ∧ w''.cell? p13 = some v13 ∧ w''.cell? p14 = some v14 ∧ w''.cell? p15 = some v15 ∧ w''.cell? p16 = some v16 := by
  obtain ⟨hb, hs, c0, c1, c2, c3, c4, c5, c6, c7, c8, c9, c10, c11, c12, c13, c14, c15, c16⟩ := h
  exact ⟨below_trans hb hB, Nat.le_trans hs hB.size, (hB.cell (Nat.lt_of_lt_of_le h0 hs)).trans c0, (hB.cell (Nat.lt_of_lt_of_le h1 hs)).trans c1, (hB.cell (Nat.lt_of_lt_of_le h2 hs)).trans c2, (hB.cell (Nat.lt_of_lt_of_le h3 hs)).trans c3, (hB.cell (Nat.lt_of_lt_of_le h4 hs)).trans c4, (hB.cell (Nat.lt_of_lt_of_le h5 hs)).trans c5, (hB.cell (Nat.lt_of_lt_of_le h6 hs)).trans c6, (hB.cell (Nat.lt_of_lt_of_le h7 hs)).trans c7, (hB.cell (Nat.lt_of_lt_of_le h8 hs)).trans c8, (hB.cell (Nat.lt_of_lt_of_le h9 hs)).trans c9, (hB.cell (Nat.lt_of_lt_of_le h10 hs)).trans c10, (hB.cell (Nat.lt_of_lt_of_le h11 hs)).trans c11, (hB.cell (Nat.lt_of_lt_of_le h12 hs)).trans c12, (hB.cell (Nat.lt_of_lt_of_le h13 hs)).trans c13, (hB.cell (Nat.lt_of_lt_of_le h14 hs)).trans c14, (hB.cell (Nat.lt_of_lt_of_le h15 hs)).trans c15, (hB.cell (Nat.lt_of_lt_of_le h16 hs)).trans c16⟩
theorem hold18 {w w' w'' : World} {B : Nat} {p0 p1 p2 p3 p4 p5 p6 p7 p8 p9 p10 p11 p12 p13 p14 p15 p16 p17 : Addr} {v0 v1 v2 v3 v4 v5 v6 v7 v8 v9 v10 v11 v12 v13 v14 v15 v16 v17 : Value} (h0 : p0.block < B) (h1 : p1.block < B) (h2 : p2.block < B) (h3 : p3.block < B) (h4 : p4.block < B) (h5 : p5.block < B) (h6 : p6.block < B) (h7 : p7.block < B) (h8 : p8.block < B) (h9 : p9.block < B) (h10 : p10.block < B) (h11 : p11.block < B) (h12 : p12.block < B) (h13 : p13.block < B) (h14 : p14.block < B) (h15 : p15.block < B) (h16 : p16.block < B) (h17 : p17.block < B) (hB : Below w'.heap.size w' w'') (h : Below w.heap.size w w' ∧ B ≤ w'.heap.size ∧ w'.cell? p0 = some v0 ∧ w'.cell? p1 = some v1 ∧ w'.cell? p2 = some v2 ∧ w'.cell? p3 = some v3 ∧ w'.cell? p4 = some v4 ∧ w'.cell? p5 = some v5 ∧ w'.cell? p6 = some v6 ∧ w'.cell? p7 = some v7 ∧ w'.cell? p8 = some v8 ∧ w'.cell? p9 = some v9 ∧ w'.cell? p10 = some v10 ∧ w'.cell? p11 = some v11 ∧ w'.cell? p12 = some v12 ∧ w'.cell? p13 = some v13 ∧ w'.cell? p14 = some v14 ∧ w'.cell? p15 = some v15 ∧ w'.cell? p16 = some v16 ∧ w'.cell? p17 = some v17) : Below w.heap.size w w'' ∧ B ≤ w''.heap.size ∧ w''.cell? p0 = some v0 ∧ w''.cell? p1 = some v1 ∧ w''.cell? p2 = some v2 ∧ w''.cell? p3 = some v3 ∧ w''.cell? p4 = some v4 ∧ w''.cell? p5 = some v5 ∧ w''.cell? p6 = some v6 ∧ w''.cell? p7 = some v7 ∧ w''.cell? p8 = some v8 ∧ w''.cell? p9 = some v9 ∧ w''.cell? p10 = some v10 ∧ w''.cell? p11 = some v11 ∧ w''.cell? p12 = some v12 ∧ w''.cell? p13 = some v13 ∧ w''.cell? p14 = some v14 ∧ w''.cell? p15 = some v15 ∧ w''.cell? p16 = some v16 ∧ w''.cell? p17 = some v17 := by
  obtain ⟨hb, hs, c0, c1, c2, c3, c4, c5, c6, c7, c8, c9, c10, c11, c12, c13, c14, c15, c16, c17⟩ := h
  exact ⟨below_trans hb hB, Nat.le_trans hs hB.size, (hB.cell (Nat.lt_of_lt_of_le h0 hs)).trans c0, (hB.cell (Nat.lt_of_lt_of_le h1 hs)).trans c1, (hB.cell (Nat.lt_of_lt_of_le h2 hs)).trans c2, (hB.cell (Nat.lt_of_lt_of_le h3 hs)).trans c3, (hB.cell (Nat.lt_of_lt_of_le h4 hs)).trans c4, (hB.cell (Nat.lt_of_lt_of_le h5 hs)).trans c5, (hB.cell (Nat.lt_of_lt_of_le h6 hs)).trans c6, (hB.cell (Nat.lt_of_lt_of_le h7 hs)).trans c7, (hB.cell (Nat.lt_of_lt_of_le h8 hs)).trans c8, (hB.cell (Nat.lt_of_lt_of_le h9 hs)).trans c9, (hB.cell (Nat.lt_of_lt_of_le h10 hs)).trans c10, (hB.cell (Nat.lt_of_lt_of_le h11 hs)).trans c11, (hB.cell (Nat.lt_of_lt_of_le h12 hs)).trans c12, (hB.cell (Nat.lt_of_lt_of_le h13 hs)).trans c13, (hB.cell (Nat.lt_of_lt_of_le h14 hs)).trans c14, (hB.cell (Nat.lt_of_lt_of_le h15 hs)).trans c15, (hB.cell (Nat.lt_of_lt_of_le h16 hs)).trans c16, (hB.cell (Nat.lt_of_lt_of_le h17 hs)).trans c17⟩
theorem hold19 {w w' w'' : World} {B : Nat} {p0 p1 p2 p3 p4 p5 p6 p7 p8 p9 p10 p11 p12 p13 p14 p15 p16 p17 p18 : Addr} {v0 v1 v2 v3 v4 v5 v6 v7 v8 v9 v10 v11 v12 v13 v14 v15 v16 v17 v18 : Value} (h0 : p0.block < B) (h1 : p1.block < B) (h2 : p2.block < B) (h3 : p3.block < B) (h4 : p4.block < B) (h5 : p5.block < B) (h6 : p6.block < B) (h7 : p7.block < B) (h8 : p8.block < B) (h9 : p9.block < B) (h10 : p10.block < B) (h11 : p11.block < B) (h12 : p12.block < B) (h13 : p13.block < B) (h14 : p14.block < B) (h15 : p15.block < B) (h16 : p16.block < B) (h17 : p17.block < B) (h18 : p18.block < B) (hB : Below w'.heap.size w' w'') (h : Below w.heap.size w w' ∧ B ≤ w'.heap.size ∧ w'.cell? p0 = some v0 ∧ w'.cell? p1 = some v1 ∧ w'.cell? p2 = some v2 ∧ w'.cell? p3 = some v3 ∧ w'.cell? p4 = some v4 ∧ w'.cell? p5 = some v5 ∧ w'.cell? p6 = some v6 ∧ w'.cell? p7 = some v7 ∧ w'.cell? p8 = some v8 ∧ w'.cell? p9 = some v9 ∧ w'.cell? p10 = some v10 ∧ w'.cell? p11 = some v11 ∧ w'.cell? p12 = some v12 ∧ w'.cell? p13 = some v13 ∧ w'.cell? p14 = some v14 ∧ w'.cell? p15 = some v15 ∧ w'.cell? p16 = some v16 ∧ w'.cell? p17 = some v17 ∧ w'.cell? p18 = some v18) : Below w.heap.size w w'' ∧ B ≤ w''.heap.size ∧ w''.cell? p0 = some v0 ∧ w''.cell? p1 = some v1 ∧ w''.cell? p2 = some v2 ∧ w''.cell? p3 = some v3 ∧ w''.cell? p4 = some v4 ∧ w''.cell? p5 = some v5 ∧ w''.cell? p6 = some v6 ∧ w''.cell? p7 = some v7 ∧ w''.cell? p8 = some v8 ∧ w''.cell? p9 = some v9 ∧ w''.cell? p10 = some v10 ∧ w''.cell? p11 = some v11 ∧ w''.cell? p12 = some v12 ∧ w''.cell? p13 = some v13 ∧ w''.cell? p14 = some v14 ∧ w''.cell? p15 = some v15 ∧ w''.cell? p16 = some v16 ∧ w''.cell? p17 = some v17 ∧ w''.cell? p18 = some v18 := by
  obtain ⟨hb, hs, c0, c1, c2, c3, c4, c5, c6, c7, c8, c9, c10, c11, c12, c13, c14, c15, c16, c17, c18⟩ := h
  exact ⟨below_trans hb hB, Nat.le_trans hs hB.size, (hB.cell (Nat.lt_of_lt_of_le h0 hs)).trans c0, (hB.cell (Nat.lt_of_lt_of_le h1 hs)).trans c1, (hB.cell (Nat.lt_of_lt_of_le h2 hs)).trans c2, (hB.cell (Nat.lt_of_lt_of_le h3 hs)).trans c3, (hB.cell (Nat.lt_of_lt_of_le h4 hs)).trans c4, (hB.cell (Nat.lt_of_lt_of_le h5 hs)).trans c5, (hB.cell (Nat.lt_of_lt_of_le h6 hs)).trans c6, (hB.cell (Nat.lt_of_lt_of_le h7 hs)).trans c7, (hB.cell (Nat.lt_of_lt_of_le h8 hs)).trans c8, (hB.cell (Nat.lt_of_lt_of_le h9 hs)).trans c9, (hB.cell (Nat.lt_of_lt_of_le h10 hs)).trans c10, (hB.cell (Nat.lt_of_lt_of_le h11 hs)).trans c11, (hB.cell (Nat.lt_of_lt_of_le h12 hs)).trans c12, (hB.cell (Nat.lt_of_lt_of_le h13 hs)).trans c13, (hB.cell (Nat.lt_of_lt_of_le h14 hs)).trans c14, (hB.cell (Nat.lt_of_lt_of_le h15 hs)).trans c15, (hB.cell (Nat.lt_of_lt_of_le h16 hs)).trans c16, (hB.cell (Nat.lt_of_lt_of_le h17 hs)).trans c17, (hB.cell (Nat.lt_of_lt_of_le h18 hs)).trans c18⟩
theorem hold_below {w w' : World} {B : Nat} {R : Prop} (h : Below w.heap.size w w' ∧ B ≤ w'.heap.size ∧ R) : Below w.heap.size w w' := h.1
end Go.Proofs.Ytallglnmeeahiaa

/- Laws for slices that the call itself grows or makes: append of one element, of a whole list; make. Over any program. -/
namespace Go.Proofs.Ytallglnmeeahiaa
set_option linter.unusedVariables false
set_option linter.unusedSimpArgs false
open Go.ChangeShapes Go.WideShapes Go.ChangeAt Go.RowKit

/-- what the program's table says of a slice type t of elements e: zero z, k cells, so many bytes -/
structure ElemOk (P : Program) (t e : TypeId) (z : Value) (k bytes : Nat) : Prop where
  und : P.underlying t = some (.slice e)
  info : (P.info? e).map (fun i => (i.zero, i.size, i.bytes)) = some (some z, k, bytes)
  zc : z.cells.size = k
  pos : 0 < k

section
variable {P : Program} {w : World}
theorem own_below {base : Nat} {w' : World} {e : TypeId} {k n : Nat} {v : Value} {cs : List Value} (h : w.ownsRow base e k v n cs) (hb : base ≤ w.heap.size) (hg : w.grownBy w' v.ownBlock) : Below base w w' :=
  (Below.refl _ _).grown hg hb (fun g hg => (h.lt g hg).1)

/-- append(s, x): the one element was laid in a block of its own first -/
theorem wpList_append1 {α : Type} (E : α → List Value) {ops : Array Oper} {rest : List Oper} {o : Oper} {a : Act} {Q : Exit → Act → World → Prop} {t e : TypeId} {z : Value} {k bytes : Nat} (el : ElemOk P t e z k bytes)
    (hgd : o.guard = none) (s y : Operand) (ho : o.op = .call { callee := .builtin .append, args := #[s, y], argTypes := #[t, t] })
    (base : Nat) (v : Value) (xs : List α) (x : α) (cs : Array Value) (c H : Nat) (hs : a.eval s = v) (hown : w.ownsRow base e k v xs.length (xs.flatMap E)) (hy : a.eval y = .slice (some ⟨H, 0, none⟩) 1 c) (hH : H = w.heap.size)
    (hcs : cs = (E x).toArray) (hE : (E x).length = k) (h1 : ∀ u ∈ E x, u.oneCell' = true) (hbytes : (xs.length + 1) * bytes ≤ 140737488355328) (hb0 : 0 < bytes) (hbase : base ≤ w.heap.size)
    (h : ∀ v' w', w'.ownsRow base e k v' (xs ++ [x]).length ((xs ++ [x]).flatMap E) → Below base w w' → (v'.ownBlock = v.ownBlock ∨ ∃ g, v'.ownBlock = some g ∧ w.heap.size ≤ g) → (w.alloc (.cells cs e)).grownBy w' v.ownBlock → wpList P ops Q rest (a.put o.dst v') w') :
    wpList P ops Q (o :: rest) a (w.alloc (.cells cs e)) := by
  subst hcs hH
  obtain ⟨i, hi, hz0, hz1, hz2⟩ := info_parts el.info
  have hlen : xs.length + 1 ≤ 140737488355328 := Nat.le_trans (Nat.le_mul_of_pos_right _ hb0) hbytes
  refine wpList_append_own_at (P := P) (w := w.alloc (.cells (E x).toArray e)) hgd s y t ho base e i z k bytes el.und hi hz0 hz1 hz2 el.zc el.pos v xs.length (xs.flatMap E) hs (hown.alloc _) ⟨w.heap.size, 0, none⟩ 1 c (E x) hy (by rw [hE, Nat.one_mul])
    (fun j u hu => ?_) h1 (by unfold maxLen; omega) hbytes (by simp; omega) ?_
  · have hadd : (⟨w.heap.size, 0, none⟩ : Addr).add j = ⟨w.heap.size, j, none⟩ := by unfold Addr.add; split <;> simp_all
    rw [hadd, World.cell?_alloc_new]
    simpa using hu
  · intro v' w' h2 h3 _ h5
    refine h v' w' (by simpa using h2) ((((Below.refl base w).alloc hbase _)).trans (own_below (hown.alloc _) (by simp; omega) h3)) ?_ h3
    rcases h5 with h5 | h5
    · exact .inl h5
    · exact .inr ⟨_, h5, by simp⟩

theorem getElem?_flat_replicate {α : Type} {E : α → List Value} {k : Nat} {d : α} (hk : (E d).length = k) : ∀ (n j : Nat), ((List.replicate n d).flatMap E)[j]? = if j < n * k then (E d)[j % k]? else none := by
  intro n
  induction n with
  | zero => intro j; simp
  | succ n ih =>
    intro j
    rw [List.replicate_succ, List.flatMap_cons, List.getElem?_append, hk]
    by_cases hj : j < k
    · rw [if_pos hj, if_pos (by rw [Nat.succ_mul]; omega), Nat.mod_eq_of_lt hj]
    · rw [if_neg hj, ih, Nat.succ_mul]
      by_cases h2 : j < n * k + k
      · rw [if_pos h2, if_pos (by omega)]
        congr 1
        conv => rhs; rw [show j = (j - k) + k by omega, Nat.add_mod_right]
      · rw [if_neg h2, if_neg (by omega)]

theorem madeCells_flat {α : Type} {E : α → List Value} {k : Nat} {d : α} {z : Array Value} (hk : (E d).length = k) (hz : z.toList = E d) (hpos : 0 < k) (n : Nat) : (madeCells z (n * k)).toList = (List.replicate n d).flatMap E := by
  apply List.ext_getElem?
  intro j
  rw [getElem?_flat_replicate hk]
  have hzs : z.size = k := by rw [← Array.length_toList, hz, hk]
  by_cases hj : j < n * k
  · rw [if_pos hj]
    have hm : j % k < z.size := by rw [hzs]; exact Nat.mod_lt _ hpos
    have : (E d)[j % k]? = z[j % k]? := by rw [← hz, Array.getElem?_toList]
    rw [this]
    simp [madeCells, hj, hzs, hm, Nat.mod_lt _ hpos]
  · rw [if_neg hj]
    simp [madeCells, hj]

/-- make([]T, n): n zero elements -/
theorem run_makeE {α : Type} (E : α → List Value) (d : α) {t e : TypeId} {z : Value} {k bytes : Nat} (el : ElemOk P t e z k bytes) (hz : z.cells.toList = E d) (hE : (E d).length = k) (n : Nat) (hbytes : bytes * n ≤ 281474976710656) (h63 : n ≤ maxLen) (w : World) :
    ∃ w', (Instr.makeSlice t (.int .i64 (n : Int)) (.int .i64 (n : Int))).run P w = .ok (.slice (some ⟨w.heap.size, 0, none⟩) n n) w' ∧
      w'.ownsRow w.heap.size e k (.slice (some ⟨w.heap.size, 0, none⟩) n n) n ((List.replicate n d).flatMap E) ∧ Below w.heap.size w w' ∧ w'.heap.size = w.heap.size + 1 := by
  obtain ⟨i, hi, hz0, hz1, hz2⟩ := info_parts el.info
  subst hz1 hz2
  have h63' : (n : Int) ≤ 9223372036854775807 := by
    have h := h63
    simp [maxLen] at h
    omega
  have hb' : (i.bytes : Int) * (n : Int) ≤ 281474976710656 := by
    have h : ((i.bytes * n : Nat) : Int) ≤ 281474976710656 := by omega
    rwa [Int.natCast_mul] at h
  have hr := run_make (P := P) w t e i z el.und hi hz0 .i64 .i64 n n (by omega) (Int.le_refl _) hb' h63'
  simp only [Int.toNat_natCast] at hr
  refine ⟨_, hr, ?_, (Below.refl _ _).alloc (Nat.le_refl _) _, by simp⟩
  rw [← madeCells_flat hE hz el.pos n]
  exact World.ownsRow_lit w _ n (Nat.le_refl _) h63 (size_madeCells _ _)
theorem ownsRow_below {lo k n : Nat} {e : TypeId} {v : Value} {cs : List Value} {w w' : World} (h : w.ownsRow lo e k v n cs) {B : Nat} (hb : Below B w w') (hB : w.heap.size ≤ B) : w'.ownsRow lo e k v n cs := by
  have hlt := h.lt
  obtain ⟨hl, hs⟩ := h
  refine ⟨hl, ?_⟩
  rcases hs with hs | ⟨g, cap, cur, rfl, hg, hh, r⟩
  · exact .inl hs
  · exact .inr ⟨g, cap, cur, rfl, hg, (hb.block g (by have := hlt g rfl; omega)).trans hh, r⟩

theorem ownsRow_below' {lo k n m cap g : Nat} {e : TypeId} {cs : List Value} {w w' : World} (h : w.ownsRow lo e k (.slice (some ⟨g, 0, none⟩) m cap) n cs) {B : Nat} (hb : Below B w w') (hB : g < B) : w'.ownsRow lo e k (.slice (some ⟨g, 0, none⟩) m cap) n cs := by
  obtain ⟨hl, hs⟩ := h
  refine ⟨hl, ?_⟩
  rcases hs with ⟨h1, _⟩ | ⟨g', cap', cur, hv, hg, hh, r⟩
  · cases h1
  · have he : g' = g := by injection hv with h1; injection h1 with h1; injection h1 with h1; exact h1.symm
    subst he
    exact .inr ⟨g', cap', cur, hv, hg, (hb.block g' hB).trans hh, r⟩

theorem wpList_makeE {α : Type} (E : α → List Value) (d : α) {ops : Array Oper} {rest : List Oper} {o : Oper} {a : Act} {Q : Exit → Act → World → Prop} {t e : TypeId} {z : Value} {k bytes : Nat} (el : ElemOk P t e z k bytes) (hz : z.cells.toList = E d) (hE : (E d).length = k)
    (hgd : o.guard = none) (l c : Operand) (hop : o.op = Op.makeSlice t l c) (base n : Nat) (N : Int) (hl : a.eval l = .int .i64 N) (hc : a.eval c = .int .i64 N) (hN : N = (n : Int)) (hbytes : bytes * n ≤ 281474976710656) (h63 : n ≤ maxLen) (hb : base ≤ w.heap.size)
    (hK : ∀ w', w'.ownsRow base e k (.slice (some ⟨w.heap.size, 0, none⟩) n n) n ((List.replicate n d).flatMap E) → Below w.heap.size w w' → wpList P ops Q rest (a.put o.dst (.slice (some ⟨w.heap.size, 0, none⟩) n n)) w') :
    wpList P ops Q (o :: rest) a w := by
  subst hN
  refine wpList_plain hgd fun K hK' => ?_
  obtain ⟨w', hrun, r1, r2, _⟩ := run_makeE E d el hz hE n hbytes h63 w
  unfold Oper.wp
  simp [execOp, hop, hl, hc, hrun, Result.andThen]
  refine hK' _ _ (hK w' ?_ r2)
  obtain ⟨hl, hs⟩ := r1
  refine ⟨hl, ?_⟩
  rcases hs with hs | ⟨g, cap, cur, hv, hg, hh, r⟩
  · exact .inl hs
  · exact .inr ⟨g, cap, cur, hv, by omega, hh, r⟩
end
end Go.Proofs.Ytallglnmeeahiaa

/- A region that draws its order: all operations but the last few are quiet in a class of worlds; the tail comes in one forced order. -/
namespace Go.Proofs.Ytallglnmeeahiaa
set_option linter.unusedVariables false
set_option linter.unusedSimpArgs false
open Go.RowKit

section
variable {P : Program} {ops : Array Oper} {md : Region.Mode} {C : World → Prop}

def wpAnyLQ (P : Program) (md : Region.Mode) (ops : Array Oper) (C : World → Prop) (n : Nat) (L : Array Bool → Act → Prop) : Nat → Array Bool → Act → Prop
  | 0, listed, a => L listed a
  | f + 1, listed, a =>
    Region.ready md ops listed ≠ [] ∧ ∀ i ∈ Region.ready md ops listed, i < n ∧ qOp P ops C i (wpAnyLQ P md ops C n L f (listed.setIfInBounds i true)) a

theorem wpAny_of_headQ {n g : Nat} {L : Array Bool → Act → Prop} {Q' : Exit → Act → World → Prop} (hL : ∀ listed a w, C w → L listed a → wpAny P md ops Q' g listed a w) :
    ∀ (f : Nat) (listed : Array Bool) (a : Act) (w : World), C w → wpAnyLQ P md ops C n L f listed a → wpAny P md ops Q' (f + g) listed a w
  | 0, listed, a, w, hw, h => by rw [Nat.zero_add]; exact hL _ _ _ hw h
  | f + 1, listed, a, w, hw, h => by
    rw [show f + 1 + g = (f + g) + 1 by omega]
    exact ⟨fun h0 => absurd h0 h.1, fun i hi => wpOp_of_qOp hw (fun a' w' hw' h' => wpAny_of_headQ hL f _ a' w' hw' h') (h.2 i hi).2⟩

theorem wpAnyLQ_first {n i : Nat} {oi : Oper} {v : Value} {L : Array Bool → Act → Prop} (hi : ops[i]? = some oi) (hsel : ∀ (j : Nat) (o : Oper) cs b, ops[j]? = some o → o.op ≠ .select cs b)
    (hs : Region.sinkB md ops n = true) (hc : Region.chainB md ops n = true) (hn : n < ops.size) (hin : i < n)
    (hdone : ∀ listed a, L listed a → ∀ j ∈ Region.ready md ops listed, n ≤ j) :
    ∀ (f : Nat) (listed : Array Bool) (a : Act), HeadInv md ops n listed →
      (∀ j oj, ops[j]? = some oj → j ≠ i → listed.getD j true = false → (∀ e ∈ oj.after, Region.binds md e = true → e.on ≠ i) → oi.apart ops oj = true) →
      i ∈ Region.ready md ops listed → YieldsIn P ops C oi v a →
      wpAnyLQ P md ops C n L f (listed.setIfInBounds i true) (a.put oi.dst v) → wpAnyLQ P md ops C n L (f + 1) listed a := by
  intro f
  induction f with
  | zero =>
    intro listed a inv _ hr hy H
    have hun := (mem_ready.1 hr).1
    refine ⟨fun h => (by rw [h] at hr; cases hr), fun j hj => ?_⟩
    have hjn : j < n := by
      rcases Nat.lt_or_ge j n with h | h
      · exact h
      · exact absurd hj (tail_waits hs hc hn inv _ i rfl hin hun j h)
    refine ⟨hjn, ?_⟩
    by_cases hji : j = i
    · subst hji; exact hy.qOp hi H
    · have := hdone _ _ H j (ready_mono hj hji)
      omega
  | succ f ih =>
    intro listed a inv hfree hr hy H
    have hun := (mem_ready.1 hr).1
    refine ⟨fun h => (by rw [h] at hr; cases hr), fun j hj => ?_⟩
    have hjn : j < n := by
      rcases Nat.lt_or_ge j n with h | h
      · exact h
      · exact absurd hj (tail_waits hs hc hn inv _ i rfl hin hun j h)
    refine ⟨hjn, ?_⟩
    by_cases hji : j = i
    · subst hji; exact hy.qOp hi H
    · have h1 := (H.2 j (ready_mono hj hji)).2
      obtain ⟨hjun, oj, hoj, hall⟩ := mem_ready.1 hj
      have hnot : ∀ e ∈ oj.after, Region.binds md e = true → e.on ≠ i := fun e he hb heq => by
        have h1 := hall e he hb
        rw [heq, getD_both hun] at h1
        cases h1
      have h2 := qOp_put hoj (hfree j oj hoj hji hjun hnot) (fun cs b => hsel i oi cs b hi) (fun cs b => hsel j oj cs b hoj) hy h1
      have hfree' : ∀ k ok, ops[k]? = some ok → k ≠ i → (listed.setIfInBounds j true).getD k true = false →
          (∀ e ∈ ok.after, Region.binds md e = true → e.on ≠ i) → oi.apart ops ok = true := fun k ok hk hki hun hno => by
        refine hfree k ok hk hki ?_ hno
        by_cases hjk : j = k
        · subst hjk; exact hjun
        · rw [getD_set_ne true hjk] at hun; exact hun
      refine qOp_mono (fun a' h3 => ih (listed.setIfInBounds j true) a' (inv.set hj hjn) hfree' (ready_mono hr (Ne.symm hji)) h3.1 ?_) h2
      rw [Array.setIfInBounds_comm _ _ hji]
      exact h3.2

theorem wpAnyLQ_lex {n g : Nat} {Lq : Act → Prop} (hsel : Region.noSelect ops = true) (hs : Region.sinkB md ops n = true) (hc : Region.chainB md ops n = true) (hn : n < ops.size) :
    ∀ (l : List Oper) (k : Nat) (listed : Array Bool) (a : Act), (∀ j, j < l.length → l[j]? = ops[k + j]?) → k + l.length = n → HeadInv md ops n listed →
    Region.lexHead md ops g l.length k listed = true → wpQuiet P ops C Lq l a →
    wpAnyLQ P md ops C n (fun listed' a' => Region.seqB md ops g n listed' = true ∧ Lq a') l.length listed a
  | [], k, listed, a, _, hk, _, hB, h => by
    have : k = n := by simpa using hk
    subst this
    exact ⟨by simpa [Region.lexHead] using hB, h⟩
  | o :: l, k, listed, a, hl, hk, inv, hB, h => by
    have h0 : ops[k]? = some o := by simpa using (hl 0 (by simp)).symm
    simp only [List.length_cons, Region.lexHead, Bool.and_eq_true] at hB
    obtain ⟨⟨hr, hf⟩, hB'⟩ := hB
    have hkn : k < n := by simp only [List.length_cons] at hk; omega
    have hr' : k ∈ Region.ready md ops listed := by simpa using hr
    have hst : qOp P ops C k (wpQuiet P ops C Lq l) a := by unfold qOp; simp only [h0]; exact h
    obtain ⟨v, hy, hK⟩ := yieldsIn_of_qOp h0 hst
    exact wpAnyLQ_first h0 (Region.noSelect_spec hsel) hs hc hn hkn (fun listed' a' hL => seqB_ready hL.1) l.length listed a inv (Region.free_spec h0 hf) hr' hy
      (wpAnyLQ_lex hsel hs hc hn l (k + 1) _ _ (fun j hj => by have := hl (j + 1) (by simp; omega); simpa [Nat.add_assoc, Nat.add_comm 1 j] using this) (by simp only [List.length_cons] at hk; omega) (inv.set hr' hkn) hB' hK)

theorem wp_region_quiet_tail {id : Nat} {Q : Exit → Act → World → Prop} {a : Act} {w : World} {l : List Oper} (n : Nat) (hm : P.follows .mixedOrders = true) (hB : Region.lexTailB .any l.toArray n = true) (hC : C { w with drawn := w.drawn + 1 })
    (h : wpQuiet P l.toArray C (fun a' => ∀ w', C w' → wpList P l.toArray Q (l.drop n) a' w') (l.take n) a) : (Code.region id l.toArray true).wp P Q a w := by
  simp only [Region.lexTailB, Bool.and_eq_true, decide_eq_true_eq] at hB
  obtain ⟨⟨⟨⟨hsel, hn⟩, hs⟩, hc⟩, hlex⟩ := hB
  have hn' : n < l.length := by simpa using hn
  have htl : (l.take n).length = n := by simp; omega
  have hdl : (l.drop n).length = l.toArray.size - n := by simp
  have inv0 : HeadInv .any l.toArray n (Array.replicate l.toArray.size false) :=
    ⟨by simp, fun j oj _ hl => (by rw [getD_replicate_false] at hl; cases hl), fun t _ ht => getD_in (by simpa using ht) (getD_replicate_false _ _)⟩
  have H := wpAnyLQ_lex (C := C) (md := .any) (g := l.toArray.size - n) hsel hs hc hn (l.take n) 0 _ a (fun j hj => by
    have hj' : j < n := by rw [htl] at hj; exact hj
    simp [hj']) (by simpa using htl) inv0 (by rw [htl]; exact hlex) h
  refine wp_region_any hm ?_
  have := wpAny_of_headQ (Q' := Q) (g := l.toArray.size - n) (fun listed a' w' hw' hL => by
    have := wpAny_of_seq (md := .any) (Q' := Q) (l.drop n) n listed a' w' (fun j => by simp [List.getElem?_drop]) (by rw [hdl]; exact hL.1) (hL.2 w' hw')
    rwa [hdl] at this) _ _ _ { w with drawn := w.drawn + 1 } hC H
  rw [htl, show n + (l.toArray.size - n) = l.toArray.size by omega] at this
  exact this

theorem wp_region_ext_tail {id : Nat} {Q : Exit → Act → World → Prop} {a : Act} {w : World} {l : List Oper} (n : Nat) (hm : P.follows .mixedOrders = true) (hB : Region.lexTailB .any l.toArray n = true)
    (h : wpQuiet P l.toArray (fun w' => ∃ u, w' = ext w u) (fun a' => ∀ w', (∃ u, w' = ext w u) → wpList P l.toArray Q (l.drop n) a' w') (l.take n) a) : (Code.region id l.toArray true).wp P Q a w :=
  wp_region_quiet_tail (C := fun w' => ∃ u, w' = ext w u) n hm hB (ext_of ⟨rfl, rfl, rfl, Nat.le_refl _, fun _ _ => rfl⟩) h
end
end Go.Proofs.Ytallglnmeeahiaa

