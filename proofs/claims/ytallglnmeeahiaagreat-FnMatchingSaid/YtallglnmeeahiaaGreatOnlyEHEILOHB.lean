/- Parts of the proof, joined into one text: Base, Frame, Open, Hold, Grow, Tail, BigB, HelpInt, HelpEdge, HelpGraph, HelpBool, HelpSS, Keep, Math, ProdM, View, Bits, Rows2, Nest. -/
import Derived.Test.YtallglnmeeahiaaGreatRows
import Derived.WalkKit
import Derived.ProofKit
import Derived.OpenShut
import Derived.Deep.QuietTactic
import Derived.BigQuiet
import Derived.Lib.Hide
import Derived.Maps.AppendAt
import Derived.Outline
import Derived.Deep.DeepMust
import Derived.Carry
import Derived.Deep.Slices
import Derived.Deep.Fields
import Derived.Lib.SmallJoins
import Derived.StillTail
import Derived.Deep.RegionHeld
import Derived.Laws.BitsAll
import Derived.IntWalk
import Derived.Deep.RegionHeld3
import Derived.Deep.AppendLies
namespace Go.Proofs.YtallglnmeeahiaaGreat
set_option linter.unusedVariables false
set_option linter.unusedSimpArgs false
open Go.ChangeShapes Go.WideShapes Go.ChangeAt Go.RowKit
def ext (w u : World) : World := { u with heap := w.heap ++ u.heap.extract w.heap.size u.heap.size, os := w.os, tape := w.tape, output := w.output }
theorem ext_below (w u : World) : Below w.heap.size w (ext w u) :=
  ⟨rfl, rfl, rfl, by simp [ext], fun k hk => by simp [ext, Array.getElem?_append, hk]⟩
theorem ext_of {w w' : World} (h : Below w.heap.size w w') : ∃ u, w' = ext w u := by
  refine ⟨w', ?_⟩
  obtain ⟨h1, h2, h3, h4, h5⟩ := h
  have hh : w.heap ++ w'.heap.extract w.heap.size w'.heap.size = w'.heap := by
    apply Array.ext_getElem?
    intro i
    rw [Array.getElem?_append]
    split
    · rename_i hi
      exact (h5 i hi).symm
    · rw [Array.getElem?_extract]
      split
      · congr 1; omega
      · rw [Array.getElem?_eq_none]; omega
  cases w'
  simp only [ext] at *
  simp_all
theorem ext_cell {w u : World} {b o : Nat} (h : b < w.heap.size) : (ext w u).cell? ⟨b, o, none⟩ = w.cell? ⟨b, o, none⟩ := (ext_below w u).cell (p := ⟨b, o, none⟩) h
theorem ext_frozen {w u : World} {b o : Nat} (h : b < w.heap.size) : (ext w u).frozen? ⟨b, o, none⟩ = w.frozen? ⟨b, o, none⟩ := (ext_below w u).frozen (p := ⟨b, o, none⟩) h
theorem ext_size (w u : World) : w.heap.size ≤ (ext w u).heap.size := (ext_below w u).size
theorem ext_lt {w u : World} {b : Nat} (h : b < w.heap.size) : (b < (ext w u).heap.size) = True := by
  have := ext_size w u
  simp; omega
theorem ext_lt1 {w u : World} {b : Nat} (h : b < w.heap.size) : (b < (ext w u).heap.size + 1) = True := by
  have := ext_size w u
  simp; omega
theorem ext_lt2 {w u : World} {b : Nat} (h : b < w.heap.size) : (b < (ext w u).heap.size + 1 + 1) = True := by
  have := ext_size w u
  simp; omega
theorem ext_lt3 {w u : World} {b : Nat} (h : b < w.heap.size) : (b < (ext w u).heap.size + 1 + 1 + 1) = True := by
  have := ext_size w u
  simp; omega
theorem ltn2 (n : Nat) : (n < n + 1 + 1) = True := eq_true (by omega)
theorem ltn3 (n : Nat) : (n < n + 1 + 1 + 1) = True := eq_true (by omega)
theorem ltn13 (n : Nat) : (n + 1 < n + 1 + 1 + 1) = True := eq_true (by omega)
theorem lts1 {b n : Nat} (h : b < n) : (b < n + 1) = True := eq_true (by omega)
theorem lts2 {b n : Nat} (h : b < n) : (b < n + 1 + 1) = True := eq_true (by omega)
theorem lts3 {b n : Nat} (h : b < n) : (b < n + 1 + 1 + 1) = True := eq_true (by omega)
theorem below_trans {a b c : World} (h : Below a.heap.size a b) (k : Below b.heap.size b c) : Below a.heap.size a c := h.trans (k.mono h.size)
theorem ext_ext (w u v : World) : ∃ x, ext (ext w u) v = ext w x := ext_of (below_trans (ext_below w u) (ext_below _ v))
theorem ext_self (w : World) : w = ext w w := by
  obtain ⟨u, hu⟩ := ext_of (Below.refl w.heap.size w)
  have h : ext w w = w := by
    cases w
    simp [ext]
  exact h.symm
theorem Calls.ext_of {P : Program} {f : FuncId} {args : Array Value} {w u : World} {v : Value}
    (h : Calls P f args (ext w u) fun e w' => e = .returned v ∧ Below (ext w u).heap.size (ext w u) w') : Calls P f args (ext w u) fun e w'' => e = .returned v ∧ ∃ x, w'' = ext w x :=
  h.mono fun _ _ ⟨he, hb⟩ => ⟨he, Go.Proofs.YtallglnmeeahiaaGreat.ext_of (below_trans (ext_below w u) hb)⟩
theorem wp_region_ext_lit {P : Program} {id : Nat} {Q : Exit → Act → World → Prop} {a : Act} {w : World} {l : List Oper} (hm : P.follows .mixedOrders = true) (hB : Region.lexB .any l.toArray = true)
    (h : wpQuiet P l.toArray (fun w' => ∃ u, w' = ext w u) (fun a' => ∀ w', (∃ u, w' = ext w u) → Q .normal a' w') l a) : (Code.region id l.toArray true).wp P Q a w :=
  wp_region_quiet (C := fun w' => ∃ u, w' = ext w u) hm hB (Go.Proofs.YtallglnmeeahiaaGreat.ext_of ⟨rfl, rfl, rfl, Nat.le_refl _, fun _ _ => rfl⟩) (by simpa using h)
structure Only (lo hi : Nat) (w w' : World) : Prop where
  os : w'.os = w.os
  tape : w'.tape = w.tape
  output : w'.output = w.output
  size : w.heap.size ≤ w'.heap.size
  block : ∀ n, n < w.heap.size → (n < lo ∨ hi ≤ n) → w'.heap[n]? = w.heap[n]?
theorem Only.of_below {w w' : World} (h : Below w.heap.size w w') (lo hi : Nat) : Only lo hi w w' := ⟨h.os, h.tape, h.output, h.size, fun n hn _ => h.block n hn⟩
theorem Only.refl (lo hi : Nat) (w : World) : Only lo hi w w := ⟨rfl, rfl, rfl, Nat.le_refl _, fun _ _ _ => rfl⟩
theorem Only.trans {lo hi : Nat} {a b c : World} (h : Only lo hi a b) (k : Only lo hi b c) : Only lo hi a c :=
  ⟨k.os.trans h.os, k.tape.trans h.tape, k.output.trans h.output, Nat.le_trans h.size k.size, fun n hn ho => (k.block n (Nat.lt_of_lt_of_le hn h.size) ho).trans (h.block n hn ho)⟩
theorem Only.mono {lo hi lo' hi' : Nat} {a b : World} (h : Only lo hi a b) (h1 : lo' ≤ lo) (h2 : hi ≤ hi') : Only lo' hi' a b :=
  ⟨h.os, h.tape, h.output, h.size, fun n hn ho => h.block n hn (by omega)⟩
theorem Only.below {lo hi : Nat} {a b : World} (h : Only lo hi a b) {B : Nat} (hB : B ≤ lo) (hs : B ≤ a.heap.size) : Below B a b :=
  ⟨h.os, h.tape, h.output, h.size, fun n hn => h.block n (by omega) (.inl (by omega))⟩
theorem Only.drew {lo hi : Nat} {a b : World} (h : Only lo hi a b) : Only lo hi a b.drew := ⟨h.os, h.tape, h.output, h.size, h.block⟩
theorem Only.drewN {lo hi : Nat} {a b : World} (h : Only lo hi a b) (n : Nat) : Only lo hi a (b.drewN n) := ⟨h.os, h.tape, h.output, h.size, h.block⟩
theorem Only.alloc {lo hi : Nat} {a b : World} (h : Only lo hi a b) (o : Obj) : Only lo hi a (b.alloc o) :=
  h.trans ⟨rfl, rfl, rfl, by simp, fun n hn _ => Below.heap_alloc _ _ _ hn⟩
theorem Only.setCell {lo hi : Nat} {a b : World} (h : Only lo hi a b) {p : Addr} (h1 : lo ≤ p.block ∧ p.block < hi ∨ a.heap.size ≤ p.block) (u : Value) : Only lo hi a (b.setCell p u) :=
  ⟨h.os, h.tape, h.output, by simpa [World.setCell] using h.size, fun n hn ho => (Below.heap_setCell _ _ _ _ (by omega)).trans (h.block n hn ho)⟩
theorem Only.cell {lo hi : Nat} {w w' : World} (h : Only lo hi w w') {p : Addr} (hp : p.block < w.heap.size) (ho : p.block < lo ∨ hi ≤ p.block) : w'.cell? p = w.cell? p := World.cell?_of_block (w := w) (h.block p.block hp ho)
def SlI {α : Type} (lo hi : Nat) (w : World) (E : α → List Value) (k : Nat) (v : Value) (xs : List α) : Prop :=
  ∃ A c, v = .slice A xs.length c ∧ xs.length ≤ c ∧ c ≤ maxLen ∧
    ∀ i x, xs[i]? = some x → ∃ b o, A = some ⟨b, o, none⟩ ∧ lo ≤ b ∧ b < hi ∧ ∀ j u, (E x)[j]? = some u → w.cell? ⟨b, o + i * k + j, none⟩ = some u
abbrev SlE {α : Type} (w : World) (E : α → List Value) (k : Nat) (v : Value) (xs : List α) : Prop := SlI 0 w.heap.size w E k v xs
section
variable {α : Type} {lo hi : Nat} {w w' : World} {E : α → List Value} {k : Nat} {v : Value} {xs : List α}
theorem SlI.keep_ (h : SlI lo hi w E k v xs) (hb : ∀ b o, lo ≤ b → b < hi → w'.cell? ⟨b, o, none⟩ = w.cell? ⟨b, o, none⟩) : SlI lo hi w' E k v xs := by
  obtain ⟨A, c, hv, hl, hm, hx⟩ := h
  refine ⟨A, c, hv, hl, hm, fun i x hi => ?_⟩
  obtain ⟨b, o, hA, h1, h2, hc⟩ := hx i x hi
  exact ⟨b, o, hA, h1, h2, fun j u hu => (hb _ _ h1 h2).trans (hc j u hu)⟩
theorem SlI.below (h : SlI lo hi w E k v xs) {B : Nat} (hb : Below B w w') (hB : hi ≤ B) : SlI lo hi w' E k v xs :=
  h.keep_ fun b o _ h2 => hb.cell (p := ⟨b, o, none⟩) (show b < B by omega)
theorem SlI.only (h : SlI lo hi w E k v xs) {l r : Nat} (hb : Only l r w w') (hh : hi ≤ w.heap.size) (ho : hi ≤ l ∨ r ≤ lo) : SlI lo hi w' E k v xs :=
  h.keep_ fun b o h1 h2 => hb.cell (p := ⟨b, o, none⟩) (show b < _ by omega) (show b < l ∨ r ≤ b by omega)
theorem SlI.mono (h : SlI lo hi w E k v xs) {lo' hi' : Nat} (h1 : lo' ≤ lo) (h2 : hi ≤ hi') : SlI lo' hi' w E k v xs := by
  obtain ⟨A, c, hv, hl, hm, hx⟩ := h
  refine ⟨A, c, hv, hl, hm, fun i x hi => ?_⟩
  obtain ⟨b, o, hA, g1, g2, hc⟩ := hx i x hi
  exact ⟨b, o, hA, by omega, by omega, hc⟩
theorem SlI.all (h : SlI lo hi w E k v xs) (hh : hi ≤ w.heap.size) : SlE w E k v xs := h.mono (Nat.zero_le _) hh
theorem SlE.keep (h : SlE w E k v xs) (hb : Below w.heap.size w w') : SlE w' E k v xs := (SlI.below h hb (Nat.le_refl _)).mono (Nat.le_refl _) hb.size
theorem SlE.ext (h : SlE w E k v xs) (u : World) : SlE (ext w u) E k v xs := h.keep (ext_below w u)
theorem SlI.shape (h : SlI lo hi w E k v xs) : ∃ A n c, v = .slice A n c := by
  obtain ⟨A, c, rfl, _⟩ := h
  exact ⟨_, _, _, rfl⟩
theorem SlI.nil (lo hi : Nat) (w : World) (E : α → List Value) (k : Nat) : SlI lo hi w E k (.slice none 0 0) [] := ⟨none, 0, rfl, Nat.le_refl _, by unfold maxLen; omega, by simp⟩
end
def Own {α : Type} (lo hi : Nat) (w : World) (e : TypeId) (E : α → List Value) (k : Nat) (v : Value) (xs : List α) : Prop :=
  w.ownsRow lo e k v xs.length (xs.flatMap E) ∧ ∀ g, v.ownBlock = some g → g < hi
theorem flat_at {α : Type} {E : α → List Value} {k : Nat} (hE : ∀ x, (E x).length = k) : ∀ {xs : List α} {i : Nat} {x : α}, xs[i]? = some x → ∀ j u, (E x)[j]? = some u → (xs.flatMap E)[i * k + j]? = some u := by
  intro xs
  induction xs with
  | nil => intro i x h; simp at h
  | cons y ys ih =>
    intro i x h j u hu
    have hj : j < k := by have := (List.getElem?_eq_some_iff.1 hu).1; rw [hE] at this; exact this
    cases i with
    | zero =>
      have hxy : y = x := by simpa using h
      subst hxy
      simp only [List.flatMap_cons, Nat.zero_mul, Nat.zero_add]
      rw [List.getElem?_append_left (by rw [hE]; exact hj)]
      exact hu
    | succ i =>
      simp only [List.flatMap_cons]
      rw [List.getElem?_append_right (by rw [hE, Nat.succ_mul]; omega), hE]
      have := ih (i := i) (x := x) (by simpa using h) j u hu
      rw [← this]
      congr 1
      rw [Nat.succ_mul]; omega
section
variable {α : Type} {lo hi : Nat} {w w' : World} {e : TypeId} {E : α → List Value} {k : Nat} {v : Value} {xs : List α}
theorem Own.lt (h : Own lo hi w e E k v xs) : ∀ g, v.ownBlock = some g → lo ≤ g ∧ g < hi ∧ g < w.heap.size := fun g hg => ⟨(h.1.lt g hg).1, h.2 g hg, (h.1.lt g hg).2⟩
theorem Own.sl (h : Own lo hi w e E k v xs) (hE : ∀ x, (E x).length = k) : SlI lo hi w E k v xs := by
  obtain ⟨hr, hlt⟩ := h
  have hr' := hr
  obtain ⟨hl, hs⟩ := hr'
  rcases hs with ⟨rfl, hn⟩ | ⟨g, cap, cur, rfl, hg, hh, hnc, hcm, hsz, htk⟩
  · have : xs = [] := List.eq_nil_of_length_eq_zero hn
    subst this
    exact SlI.nil _ _ _ _ _
  · refine ⟨_, cap, rfl, hnc, hcm, fun i x hi => ⟨g, 0, rfl, hg, hlt g rfl, fun j u hu => ?_⟩⟩
    have hf := flat_at hE hi j u hu
    have hj := (List.getElem?_eq_some_iff.1 hf).1
    rw [hl] at hj
    rw [Nat.zero_add]
    exact (World.ownsRow.cellAt hr _ hj).trans hf
theorem Own.kept (h : Own lo hi w e E k v xs) {row : Option Nat} (hg : w.grownBy w' row) (hne : v.ownBlock = none ∨ v.ownBlock ≠ row) : Own lo hi w' e E k v xs := ⟨h.1.kept hg hne, h.2⟩
theorem Own.below (h : Own lo hi w e E k v xs) {B : Nat} (hb : Below B w w') (hB : hi ≤ B) : Own lo hi w' e E k v xs := by
  obtain ⟨⟨hl, hs⟩, hlt⟩ := h
  refine ⟨⟨hl, ?_⟩, hlt⟩
  rcases hs with hs | ⟨g, cap, cur, rfl, hg, hh, r⟩
  · exact .inl hs
  · exact .inr ⟨g, cap, cur, rfl, hg, (hb.block g (by have := hlt g rfl; omega)).trans hh, r⟩
theorem Own.only (h : Own lo hi w e E k v xs) {l r : Nat} (hb : Only l r w w') (ho : hi ≤ l ∨ r ≤ lo) : Own lo hi w' e E k v xs := by
  have hx := h.lt
  obtain ⟨⟨hl, hs⟩, hlt⟩ := h
  refine ⟨⟨hl, ?_⟩, hlt⟩
  rcases hs with hs | ⟨g, cap, cur, rfl, hg, hh, rr⟩
  · exact .inl hs
  · have := hx g rfl
    exact .inr ⟨g, cap, cur, rfl, hg, (hb.block g this.2.2 (by omega)).trans hh, rr⟩
theorem Own.mono (h : Own lo hi w e E k v xs) {lo' hi' : Nat} (h1 : lo' ≤ lo) (h2 : hi ≤ hi') : Own lo' hi' w e E k v xs := by
  obtain ⟨⟨hl, hs⟩, hlt⟩ := h
  refine ⟨⟨hl, ?_⟩, fun g hg => Nat.lt_of_lt_of_le (hlt g hg) h2⟩
  rcases hs with hs | ⟨g, cap, cur, rfl, hg, hh, r⟩
  · exact .inl hs
  · exact .inr ⟨g, cap, cur, rfl, by omega, hh, r⟩
theorem Own.of_row {n : Nat} {cs : List Value} (h : w.ownsRow lo e k v n cs) (hn : xs.length = n) (hc : xs.flatMap E = cs) : Own lo w.heap.size w e E k v xs := by
  subst hn hc
  exact ⟨h, fun g hg => (h.lt g hg).2⟩
theorem Own.shape (h : Own lo hi w e E k v xs) : ∃ A n c, v = .slice A n c := by
  obtain ⟨⟨_, hs⟩, _⟩ := h
  rcases hs with ⟨rfl, _⟩ | ⟨g, cap, cur, rfl, _⟩
  · exact ⟨_, _, _, rfl⟩
  · exact ⟨_, _, _, rfl⟩
theorem Own.nil (lo hi : Nat) (w : World) (e : TypeId) (E : α → List Value) (k : Nat) : Own lo hi w e E k (.slice none 0 0) [] := ⟨World.ownsRow_nil w lo e k, by intro g hg; cases hg⟩
end
def Blk (w : World) (g : Nat) (t : TypeId) (cs : Array Value) : Prop := w.heap[g]? = some (.cells cs t (0, 0))
section
variable {w w' : World} {g : Nat} {t : TypeId} {cs : Array Value}
theorem Blk.lt (h : Blk w g t cs) : g < w.heap.size := by
  rcases Nat.lt_or_ge g w.heap.size with hlt | hge
  · exact hlt
  · unfold Blk at h; rw [Array.getElem?_eq_none hge] at h; cases h
theorem Blk.cell (h : Blk w g t cs) (i : Nat) : w.cell? ⟨g, i, none⟩ = cs[i]? := cell_of_row w g i cs t (0, 0) h
theorem Blk.frozen (h : Blk w g t cs) (i : Nat) : w.frozen? ⟨g, i, none⟩ = false := by
  unfold Blk at h
  simp [World.frozen?, h]
theorem Blk.new (w : World) (t : TypeId) (cs : Array Value) (n : Nat) (hn : n = w.heap.size) : Blk (w.alloc (.cells cs t)) n t cs := by subst hn; exact heap_alloc_new w _
theorem Blk.drew (h : Blk w g t cs) : Blk w.drew g t cs := h
theorem Blk.drewN (h : Blk w g t cs) (n : Nat) : Blk (w.drewN n) g t cs := h
theorem Blk.alloc (h : Blk w g t cs) (o : Obj) : Blk (w.alloc o) g t cs := (Below.heap_alloc w o g h.lt).trans h
theorem Blk.set_ (h : Blk w g t cs) (i : Nat) (u : Value) : Blk (w.setCell ⟨g, i, none⟩ u) g t (cs.setIfInBounds i u) := by
  unfold Blk at h ⊢
  simp [World.setCell, Array.getElem?_modify, h]
theorem Blk.far (h : Blk w g t cs) {p : Addr} (hp : g ≠ p.block) (u : Value) : Blk (w.setCell p u) g t cs := (Below.heap_setCell w p u g hp).trans h
theorem Blk.below (h : Blk w g t cs) {B : Nat} (hb : Below B w w') (hg : g < B) : Blk w' g t cs := (hb.block g hg).trans h
theorem Blk.keep (h : Blk w g t cs) (hb : Below w.heap.size w w') : Blk w' g t cs := (hb.block g h.lt).trans h
theorem Blk.only (h : Blk w g t cs) {l r : Nat} (hb : Only l r w w') (ho : g < l ∨ r ≤ g) : Blk w' g t cs := (hb.block g h.lt ho).trans h
end
abbrev Pr := Int × Int
abbrev Ed := Int × Int × Int × Int
abbrev St := Int × Bool
abbrev Wk := Int × List St
def cI (x : Int) : List Value := [.int .i64 x]
def cB (x : Bool) : List Value := [.bool x]
def cU (x : Int) : List Value := [.int .u8 x]
def cV (x : Value) : List Value := [x]
def cPr (p : Pr) : List Value := [.int .i64 p.1, .int .i64 p.2]
def cEd (p : Ed) : List Value := [.int .i64 p.1, .int .i64 p.2.1, .int .i64 p.2.2.1, .int .i64 p.2.2.2]
def cSt (p : St) : List Value := [.int .i64 p.1, .bool p.2]
theorem cI_len (x : Int) : (cI x).length = 1 := rfl
theorem cB_len (x : Bool) : (cB x).length = 1 := rfl
theorem cV_len (x : Value) : (cV x).length = 1 := rfl
theorem cPr_len (x : Pr) : (cPr x).length = 2 := rfl
theorem cEd_len (x : Ed) : (cEd x).length = 4 := rfl
theorem cSt_len (x : St) : (cSt x).length = 2 := rfl
theorem cI_one (x : Int) : ∀ u ∈ cI x, u.oneCell' = true := by intro u hu; simp only [cI, List.mem_cons, List.not_mem_nil, or_false] at hu; subst hu; rfl
theorem cB_one (x : Bool) : ∀ u ∈ cB x, u.oneCell' = true := by intro u hu; simp only [cB, List.mem_cons, List.not_mem_nil, or_false] at hu; subst hu; rfl
theorem cPr_one (x : Pr) : ∀ u ∈ cPr x, u.oneCell' = true := by intro u hu; simp only [cPr, List.mem_cons, List.not_mem_nil, or_false] at hu; rcases hu with rfl | rfl <;> rfl
theorem cSt_one (x : St) : ∀ u ∈ cSt x, u.oneCell' = true := by intro u hu; simp only [cSt, List.mem_cons, List.not_mem_nil, or_false] at hu; rcases hu with rfl | rfl <;> rfl
theorem cEd_one (x : Ed) : ∀ u ∈ cEd x, u.oneCell' = true := by intro u hu; simp only [cEd, List.mem_cons, List.not_mem_nil, or_false] at hu; rcases hu with rfl | rfl | rfl | rfl <;> rfl
structure Gr where
  vals : List Int
  edges : List Ed
structure Au where
  start : Int
  accept : List Bool
  next : List (List Int)
def GrV (lo hi : Nat) (w : World) (v : Value) (g : Gr) : Prop := ∃ vs es, v = .agg #[vs, es] ∧ SlI lo hi w cI 1 vs g.vals ∧ SlI lo hi w cEd 4 es g.edges
/-- a slice of slices of numbers -/
def SSV (lo hi : Nat) (w : World) (v : Value) (xss : List (List Int)) : Prop :=
  ∃ vs : List Value, SlI lo hi w cV 1 v vs ∧ vs.length = xss.length ∧ ∀ (i : Nat) (u : Value) (xs : List Int), vs[i]? = some u → xss[i]? = some xs → SlI lo hi w cI 1 u xs
def AuV (lo hi : Nat) (w : World) (v : Value) (a : Au) : Prop := ∃ ac nx, v = .agg #[.int .i64 a.start, ac, nx] ∧ SlI lo hi w cB 1 ac a.accept ∧ SSV lo hi w nx a.next
def WkV (lo hi : Nat) (w : World) (v : Value) (k : Wk) : Prop := ∃ ss, v = .agg #[.int .i64 k.1, ss] ∧ SlI lo hi w cSt 2 ss k.2
section
variable {lo hi : Nat} {w w' : World} {v : Value}
theorem GrV.below {g : Gr} (h : GrV lo hi w v g) {B : Nat} (hb : Below B w w') (hB : hi ≤ B) : GrV lo hi w' v g := by
  obtain ⟨vs, es, rfl, h1, h2⟩ := h
  exact ⟨vs, es, rfl, h1.below hb hB, h2.below hb hB⟩
theorem GrV.mono {g : Gr} (h : GrV lo hi w v g) {lo' hi' : Nat} (h1 : lo' ≤ lo) (h2 : hi ≤ hi') : GrV lo' hi' w v g := by
  obtain ⟨vs, es, rfl, g1, g2⟩ := h
  exact ⟨vs, es, rfl, g1.mono h1 h2, g2.mono h1 h2⟩
theorem GrV.all {g : Gr} (h : GrV lo hi w v g) (hh : hi ≤ w.heap.size) : GrV 0 w.heap.size w v g := h.mono (Nat.zero_le _) hh
theorem GrV.keep {g : Gr} (h : GrV 0 w.heap.size w v g) (hb : Below w.heap.size w w') : GrV 0 w'.heap.size w' v g := (h.below hb (Nat.le_refl _)).mono (Nat.le_refl _) hb.size
theorem GrV.only {g : Gr} (h : GrV lo hi w v g) {l r : Nat} (hb : Only l r w w') (hh : hi ≤ w.heap.size) (ho : hi ≤ l ∨ r ≤ lo) : GrV lo hi w' v g := by
  obtain ⟨vs, es, rfl, g1, g2⟩ := h
  exact ⟨vs, es, rfl, g1.only hb hh ho, g2.only hb hh ho⟩
theorem SSV.below {x : List (List Int)} (h : SSV lo hi w v x) {B : Nat} (hb : Below B w w') (hB : hi ≤ B) : SSV lo hi w' v x := by
  obtain ⟨vs, h1, h2, h3⟩ := h
  exact ⟨vs, h1.below hb hB, h2, fun i u xs hu hx => (h3 i u xs hu hx).below hb hB⟩
theorem SSV.shape {x : List (List Int)} (h : SSV lo hi w v x) : ∃ A n c, v = .slice A n c := by
  obtain ⟨vs, h1, _⟩ := h
  exact h1.shape
theorem AuV.shape {a : Au} (h : AuV lo hi w v a) : ∃ A1 n1 c1 A2 n2 c2, v = .agg #[.int .i64 a.start, .slice A1 n1 c1, .slice A2 n2 c2] := by
  obtain ⟨vs, es, rfl, h1, h2⟩ := h
  obtain ⟨A1, n1, c1, rfl⟩ := h1.shape
  obtain ⟨A2, n2, c2, rfl⟩ := h2.shape
  exact ⟨_, _, _, _, _, _, rfl⟩
theorem GrV.shape {g : Gr} (h : GrV lo hi w v g) : ∃ A1 n1 c1 A2 n2 c2, v = .agg #[.slice A1 n1 c1, .slice A2 n2 c2] := by
  obtain ⟨vs, es, rfl, h1, h2⟩ := h
  obtain ⟨A1, n1, c1, rfl⟩ := h1.shape
  obtain ⟨A2, n2, c2, rfl⟩ := h2.shape
  exact ⟨_, _, _, _, _, _, rfl⟩
theorem WkV.shape {k : Wk} (h : WkV lo hi w v k) : ∃ A1 n1 c1, v = .agg #[.int .i64 k.1, .slice A1 n1 c1] := by
  obtain ⟨vs, rfl, h1⟩ := h
  obtain ⟨A1, n1, c1, rfl⟩ := h1.shape
  exact ⟨_, _, _, rfl⟩
theorem SSV.mono {x : List (List Int)} (h : SSV lo hi w v x) {lo' hi' : Nat} (h1 : lo' ≤ lo) (h2 : hi ≤ hi') : SSV lo' hi' w v x := by
  obtain ⟨vs, g1, g2, g3⟩ := h
  exact ⟨vs, g1.mono h1 h2, g2, fun i u xs hu hx => (g3 i u xs hu hx).mono h1 h2⟩
theorem SSV.all {x : List (List Int)} (h : SSV lo hi w v x) (hh : hi ≤ w.heap.size) : SSV 0 w.heap.size w v x := h.mono (Nat.zero_le _) hh
theorem SSV.keep {x : List (List Int)} (h : SSV 0 w.heap.size w v x) (hb : Below w.heap.size w w') : SSV 0 w'.heap.size w' v x := (h.below hb (Nat.le_refl _)).mono (Nat.le_refl _) hb.size
theorem SSV.only {x : List (List Int)} (h : SSV lo hi w v x) {l r : Nat} (hb : Only l r w w') (hh : hi ≤ w.heap.size) (ho : hi ≤ l ∨ r ≤ lo) : SSV lo hi w' v x := by
  obtain ⟨vs, g1, g2, g3⟩ := h
  exact ⟨vs, g1.only hb hh ho, g2, fun i u xs hu hx => (g3 i u xs hu hx).only hb hh ho⟩
theorem AuV.below {a : Au} (h : AuV lo hi w v a) {B : Nat} (hb : Below B w w') (hB : hi ≤ B) : AuV lo hi w' v a := by
  obtain ⟨vs, es, rfl, h1, h2⟩ := h
  exact ⟨vs, es, rfl, h1.below hb hB, h2.below hb hB⟩
theorem AuV.mono {a : Au} (h : AuV lo hi w v a) {lo' hi' : Nat} (h1 : lo' ≤ lo) (h2 : hi ≤ hi') : AuV lo' hi' w v a := by
  obtain ⟨vs, es, rfl, g1, g2⟩ := h
  exact ⟨vs, es, rfl, g1.mono h1 h2, g2.mono h1 h2⟩
theorem AuV.all {a : Au} (h : AuV lo hi w v a) (hh : hi ≤ w.heap.size) : AuV 0 w.heap.size w v a := h.mono (Nat.zero_le _) hh
theorem AuV.keep {a : Au} (h : AuV 0 w.heap.size w v a) (hb : Below w.heap.size w w') : AuV 0 w'.heap.size w' v a := (h.below hb (Nat.le_refl _)).mono (Nat.le_refl _) hb.size
theorem AuV.only {a : Au} (h : AuV lo hi w v a) {l r : Nat} (hb : Only l r w w') (hh : hi ≤ w.heap.size) (ho : hi ≤ l ∨ r ≤ lo) : AuV lo hi w' v a := by
  obtain ⟨vs, es, rfl, g1, g2⟩ := h
  exact ⟨vs, es, rfl, g1.only hb hh ho, g2.only hb hh ho⟩
theorem WkV.below {a : Wk} (h : WkV lo hi w v a) {B : Nat} (hb : Below B w w') (hB : hi ≤ B) : WkV lo hi w' v a := by
  obtain ⟨vs, rfl, h1⟩ := h
  exact ⟨vs, rfl, h1.below hb hB⟩
theorem WkV.mono {a : Wk} (h : WkV lo hi w v a) {lo' hi' : Nat} (h1 : lo' ≤ lo) (h2 : hi ≤ hi') : WkV lo' hi' w v a := by
  obtain ⟨vs, rfl, g1⟩ := h
  exact ⟨vs, rfl, g1.mono h1 h2⟩
theorem WkV.all {a : Wk} (h : WkV lo hi w v a) (hh : hi ≤ w.heap.size) : WkV 0 w.heap.size w v a := h.mono (Nat.zero_le _) hh
theorem WkV.keep {a : Wk} (h : WkV 0 w.heap.size w v a) (hb : Below w.heap.size w w') : WkV 0 w'.heap.size w' v a := (h.below hb (Nat.le_refl _)).mono (Nat.le_refl _) hb.size
theorem WkV.only {a : Wk} (h : WkV lo hi w v a) {l r : Nat} (hb : Only l r w w') (hh : hi ≤ w.heap.size) (ho : hi ≤ l ∨ r ≤ lo) : WkV lo hi w' v a := by
  obtain ⟨vs, rfl, g1⟩ := h
  exact ⟨vs, rfl, g1.only hb hh ho⟩
end
theorem ret_int {k : IntKind} {a b : Int} (h : a = b) : Ending.returned (.int k a) = .returned (.int k b) := by rw [h]
theorem take_snoc {α : Type} {xs : List α} {k : Nat} {x : α} (hx : xs[k]? = some x) : xs.take (k + 1) = xs.take k ++ [x] := by
  rw [List.take_add_one, hx]; rfl
end Go.Proofs.YtallglnmeeahiaaGreat
namespace Go.Proofs.YtallglnmeeahiaaGreat
set_option linter.unusedVariables false
set_option linter.unusedSimpArgs false
open Go.ChangeShapes Go.WideShapes Go.ChangeAt Go.RowKit
section
variable {H : Type} {enc : TypeId × Value → H} {P : Program}
theorem keep_all (hl : laidOutB P = true) {W W' : World} (hb : Below W.heap.size W W') : ∀ (ts : List TypeId), ts.all (fun t => P.readableRec t && decide (t < P.types.size)) = true →
    ∀ (vs : List Value) (ds : List (DataW H)) (ps : List MemPlace), DataW.TrodAll enc P W 0 (fun _ => true) true ts vs ds ps → ∀ sp : Nat → Bool, (∀ x ∈ ps, x.block < W.heap.size ∧ sp x.block = true) →
    DataW.TrodAll enc P W' 0 sp true ts vs ds ps := by
  intro ts
  induction ts with
  | nil =>
    intro _ vs ds ps h _ _
    obtain ⟨rfl, rfl, rfl⟩ := trodAll_nil h
    exact trodAll_mk0
  | cons t ts ih =>
    intro hr vs ds ps h sp hlt
    simp only [List.all_cons, Bool.and_eq_true, decide_eq_true_eq] at hr
    obtain ⟨v, vs', d, ds', p, q, rfl, rfl, rfl, h0, h1⟩ := trodAll_cons h
    exact trodAll_cons_mk (WideElems.Trod_stays hl hr.1.1 hr.1.2 h0 (fun x hx => hb.same (hlt x (List.mem_append_left _ hx)).1) (fun x hx => (hlt x (List.mem_append_left _ hx)).2)) (ih hr.2 _ _ _ h1 sp (fun x hx => hlt x (List.mem_append_right _ hx)))
theorem post_of_below {f : Func} {s : ChangeSpec} {apart fresh handsOn again : Bool} {W W' : World} {args : Array Value} {v : Value} {ds gs : List (DataW H)} {before pa pv : List MemPlace}
    (hW : DataW.Whole enc P f.params.toList s.vars apart W args.toList ds gs before)
    (hres : ∀ (b : Nat) (sp : Nat → Bool) (hd : Bool), DataW.TrodAll enc P W' b sp hd f.resultTypes.toList (v.resultList f.resultTypes.size) (s.fn H (ds ++ gs)).results [])
    (hargs : ∀ sp : Nat → Bool, (∀ p ∈ before, sp p.block = true) → DataW.TrodAll enc P W' 0 sp true f.params.toList args.toList (s.fn H (ds ++ gs)).args pa)
    (hvars : ∀ sp : Nat → Bool, (∀ p ∈ before, sp p.block = true) → DataW.TrodVars enc P W' sp s.vars (s.fn H (ds ++ gs)).vars pv)
    (hps : before = pa ++ pv) (hb : Below W.heap.size W W')
    (hok : ∀ (j : Nat) (t : TypeId) (r : Value), f.resultTypes[j]? = some t → (v.resultList f.resultTypes.size)[j]? = some r → Value.okWide P W' .any 0 t r) :
    s.post enc P f apart fresh handsOn again W args v W' := by
  have hlt : ∀ p ∈ before, p.block < W.heap.size := fun p hp => hW.lt p hp
  have hold : ∀ p ∈ before, (fun b => decide (b < W.heap.size)) p.block = true := fun p hp => by simpa using hlt p hp
  refine ⟨ds, gs, before, [], pa, pv, hW, hres _ _ _, hargs _ hold, hvars _ hold, World.keptBut_mono (fun p hp => ⟨hp, ?_⟩) (hb.frame (· ∈ before)), fun _ => ?_⟩
  · rw [hps, List.mem_append] at hp
    exact Or.inr hp
  · obtain ⟨_, _, _, _, _, hz, hn⟩ := hW
    refine ⟨hok, _, _, ([] ++ pa) ++ pv, ⟨[] ++ pa, pv, trodAll_append (hargs _ (fun _ _ => rfl)) (hres _ _ _), hvars _ (fun _ _ => rfl), rfl, ?_, ?_⟩, ?_⟩
    · intro b off hp
      have hin : MemPlace.cell b off ∈ before := by rw [hps]; simpa using hp
      rw [hb.frozen (hlt _ hin)]
      exact hz b off hin
    · intro ha
      have := hn ha
      rw [hps] at this
      simpa using this
    · intro p hp _
      rw [hps]
      simpa using hp
/-- THE LAW's STEP: its walk says 'true, and Below'. -/
theorem law_post {f : Func} {s : ChangeSpec} {tb : TypeId} (hl : laidOutB P = true) (hr : f.params.toList.all (fun t => P.readableRec t && decide (t < P.types.size)) = true) (hrt : f.resultTypes = #[tb]) (htb : P.underlying tb = some .bool)
    (hvars : s.vars = []) {W W' : World} {args : Array Value} {ds gs : List (DataW H)} {before : List MemPlace} (hfn : s.fn H (ds ++ gs) = { results := [.lit (.bool true)], args := ds })
    (hW : DataW.Whole enc P f.params.toList s.vars false W args.toList ds gs before) (hb : Below W.heap.size W W') :
    s.post enc P f false true false false W args (.bool true) W' := by
  have hW' := hW
  obtain ⟨p, q, hA, hV, hpq, _, _⟩ := hW
  rw [hvars] at hV
  obtain ⟨hgs, hq⟩ := trodVars_none hV
  subst hq
  have hlt : ∀ x ∈ before, x.block < W.heap.size := fun x hx => hW'.lt x hx
  have hbef : before = p ++ [] := hpq
  refine post_of_below (pa := p) (pv := []) hW' (fun b sp hd => ?_) (fun sp hsp => ?_) (fun sp _ => ?_) hbef hb ?_
  · rw [hfn, hrt]
    exact trodAll_cons_mk (shut_bool htb _) trodAll_mk0
  · rw [hfn]
    exact keep_all hl hb _ hr _ _ _ hA sp (fun x hx => ⟨hlt x (by rw [hbef]; simpa using hx), hsp x (by rw [hbef]; simpa using hx)⟩)
  · rw [hfn, hvars]
    exact rfl
  · exact ok_one (by rw [hrt]) rfl (okWide_bool_mk htb _)
end
end Go.Proofs.YtallglnmeeahiaaGreat
namespace Go.Proofs.YtallglnmeeahiaaGreat
set_option linter.unusedVariables false
set_option linter.unusedSimpArgs false
open Go.ChangeShapes Go.WideShapes Go.ChangeAt Go.RowKit Go.Deep Go.Joins
set_option maxRecDepth 100000
section
variable {H : Type} {enc : TypeId × Value → H} {P : Program} {w : World} {sp : Nat → Bool} {held : Bool}
theorem list_of {α : Type} {Q : Nat → α → Prop} : ∀ (n : Nat), (∀ i, i < n → ∃ x, Q i x) → ∃ xs : List α, xs.length = n ∧ ∀ i x, xs[i]? = some x → Q i x := by
  intro n
  induction n with
  | zero => intro _; exact ⟨[], rfl, by simp⟩
  | succ n ih =>
    intro h
    obtain ⟨xs, hl, hx⟩ := ih (fun i hi => h i (by omega))
    obtain ⟨x, hq⟩ := h n (by omega)
    refine ⟨xs ++ [x], by simp [hl], fun i y hy => ?_⟩
    by_cases hi : i < n
    · rw [List.getElem?_append_left (by omega)] at hy
      exact hx i y hy
    · have hin := (List.getElem?_eq_some_iff.1 hy).1
      simp only [List.length_append, List.length_cons, List.length_nil] at hin
      have : i = n := by omega
      subst this
      rw [List.getElem?_append_right (by omega), hl, Nat.sub_self] at hy
      simp at hy
      subst hy
      exact hq
theorem open_list {α : Type} (E : α → List Value) (k : Nat) (Rd : α → Prop) {t e : TypeId} {fuel : Nat} {v : Value} {y : DataW H × List MemPlace} (ht : P.underlying t = some (.slice e)) (hC : P.cellsOf e = k) (hk : 0 < k)
    (helem : ∀ (n : Nat) (cs : List Value) (y : DataW H × List MemPlace), cs.length = k → DataW.trod enc P w 0 sp held n e cs = some y → ∃ x, cs = E x ∧ Rd x)
    (h : DataW.trod enc P w 0 sp held fuel t [v] = some y) : ∃ xs, SlE w E k v xs ∧ ∀ x ∈ xs, Rd x := by
  rcases open_slice ht h with ⟨hcs, _⟩ | ⟨a, len, cap, m, n, D, Pl, hcs, _, hl, hm, hmm, _, hi⟩
  · have hv : v = .slice none 0 0 := by simpa using hcs
    subst hv
    exact ⟨[], SlI.nil _ _ _ _ _, by simp⟩
  · have hv : v = .slice (some a) len cap := by simpa using hcs
    subst hv
    have hlm : len ≤ m := by rw [hmm]; split <;> omega
    obtain ⟨xs, hxl, hx⟩ := list_of (Q := fun i x => Rd x ∧ ∀ j u, (E x)[j]? = some u → j < k ∧ w.cell? ((a.add (i * k)).add j) = some u) len (fun i hil => by
      obtain ⟨cs', hc, ht'⟩ := hi i (by omega)
      rw [hC] at hc
      obtain ⟨_, hcl, hat⟩ := World.cells?_some hc
      obtain ⟨x, rfl, hr⟩ := helem _ _ _ hcl ht'
      refine ⟨x, hr, fun j u hu => ?_⟩
      have hj : j < k := by have := (List.getElem?_eq_some_iff.1 hu).1; omega
      exact ⟨hj, (hat j hj).trans hu⟩)
    subst hxl
    refine ⟨xs, ⟨some a, cap, rfl, hl, hm, fun i x hix => ?_⟩, fun x hxm => ?_⟩
    · have hil := (List.getElem?_eq_some_iff.1 hix).1
      obtain ⟨cs', hc, ht'⟩ := hi i (by omega)
      rw [hC] at hc
      obtain ⟨_, hcl, hat⟩ := World.cells?_some hc
      obtain ⟨b, o, spot⟩ := a
      have h0 := hat 0 hk
      have hc0 : cs'[0]? = some (cs'[0]'(by omega)) := List.getElem?_eq_getElem (by omega)
      rw [hc0] at h0
      have hspot : spot = none := by
        obtain ⟨cs2, hc2, _⟩ := hi 0 (by omega)
        rw [hC] at hc2
        obtain ⟨_, hcl2, hat2⟩ := World.cells?_some hc2
        have h2 := hat2 0 hk
        rw [List.getElem?_eq_getElem (by omega)] at h2
        have := World.cell?_spot h2
        simpa [Addr.add] using this
      subst hspot
      have hadd : ∀ j, ((⟨b, o, none⟩ : Addr).add (i * k)).add j = ⟨b, o + i * k + j, none⟩ := fun j => by
        unfold Addr.add
        by_cases h1 : i * k = 0 <;> by_cases h2 : j = 0 <;> simp [h1, h2] <;> omega
      refine ⟨b, o, rfl, Nat.zero_le _, ?_, fun j u hu => ?_⟩
      · rw [hadd] at h0
        exact World.block_lt_of_cell? _ _ h0
      · have := ((hx i x hix).2 j u hu).2
        rw [hadd] at this
        exact this
    · obtain ⟨i, hil, hie⟩ := List.getElem_of_mem hxm
      exact (hx i x (by rw [List.getElem?_eq_getElem hil, hie])).1
theorem elem_u8 {e : TypeId} (he : P.underlying e = some (.int .u8)) : ∀ (n : Nat) (cs : List Value) (y : DataW H × List MemPlace), cs.length = 1 → DataW.trod enc P w 0 sp held n e cs = some y → ∃ x, cs = cU x ∧ True := by
  intro n cs y _ h
  obtain ⟨x, h1, _⟩ := DataW.trod_int he h
  exact ⟨x, h1, trivial⟩
end
section
variable {H : Type} {enc : TypeId × Value → H} {w : World} {sp : Nat → Bool} {held : Bool} {b0 : Nat} {v : Value} {d : DataW H} {p : List MemPlace}
theorem openBytes (hv : Value.okWide Tryz.prog w .any b0 22 v) (h : DataW.Trod enc Tryz.prog w 0 sp held 22 v d p) : ∃ xs : List Int, SlE w cU 1 v xs := by
  obtain ⟨A, n, c, rfl⟩ := okWide_slice Tryz.underlying22 hv
  obtain ⟨fuel, hf⟩ := h
  obtain ⟨xs, hx, _⟩ := open_list cU 1 (fun _ => True) Tryz.underlying22 (by kernel_rfl) (by omega) (elem_u8 Tryz.underlying5) hf
  exact ⟨xs, hx⟩
end
end Go.Proofs.YtallglnmeeahiaaGreat
namespace Go.Proofs.YtallglnmeeahiaaGreat
set_option linter.unusedVariables false
set_option linter.unusedSimpArgs false
open Go.ChangeShapes Go.WideShapes Go.ChangeAt Go.RowKit
end Go.Proofs.YtallglnmeeahiaaGreat
namespace Go.Proofs.YtallglnmeeahiaaGreat
set_option linter.unusedVariables false
set_option linter.unusedSimpArgs false
open Go.ChangeShapes Go.WideShapes Go.ChangeAt Go.RowKit
/-- what the program's table says of a slice type t of elements e: zero z, k cells, so many bytes -/
structure ElemOk (P : Program) (t e : TypeId) (z : Value) (k bytes : Nat) : Prop where
  und : P.underlying t = some (.slice e)
  info : (P.info? e).map (fun i => (i.zero, i.size, i.bytes)) = some (some z, k, bytes)
  zc : z.cells.size = k
  pos : 0 < k
section
variable {P : Program} {w : World}
theorem own_below {base : Nat} {w' : World} {e : TypeId} {k n : Nat} {v : Value} {cs : List Value} (h : w.ownsRow base e k v n cs) (hb : base ≤ w.heap.size) (hg : w.grownBy w' v.ownBlock) : Below base w w' :=
  (Below.refl _ _).grown hg hb (fun g hg => (h.lt g hg).1)
/-- append(s, x): the one element was laid in a block of its own first -/
theorem wpList_append1 {α : Type} (E : α → List Value) {ops : Array Oper} {rest : List Oper} {o : Oper} {a : Act} {Q : Exit → Act → World → Prop} {t e : TypeId} {z : Value} {k bytes : Nat} (el : ElemOk P t e z k bytes)
    (hgd : o.guard = none) (s y : Operand) (ho : o.op = .call { callee := .builtin .append, args := #[s, y], argTypes := #[t, t] })
    (base : Nat) (v : Value) (xs : List α) (x : α) (cs : Array Value) (c H : Nat) (hs : a.eval s = v) (hown : w.ownsRow base e k v xs.length (xs.flatMap E)) (hy : a.eval y = .slice (some ⟨H, 0, none⟩) 1 c) (hH : H = w.heap.size)
    (hcs : cs = (E x).toArray) (hE : (E x).length = k) (h1 : ∀ u ∈ E x, u.oneCell' = true) (hbytes : (xs.length + 1) * bytes ≤ 140737488355328) (hb0 : 0 < bytes) (hbase : base ≤ w.heap.size)
    (h : ∀ v' w', w'.ownsRow base e k v' (xs ++ [x]).length ((xs ++ [x]).flatMap E) → Below base w w' → (v'.ownBlock = v.ownBlock ∨ ∃ g, v'.ownBlock = some g ∧ w.heap.size ≤ g) → (w.alloc (.cells cs e)).grownBy w' v.ownBlock → wpList P ops Q rest (a.put o.dst v') w') :
    wpList P ops Q (o :: rest) a (w.alloc (.cells cs e)) := by
  subst hcs hH
  obtain ⟨i, hi, hz0, hz1, hz2⟩ := info_parts el.info
  have hlen : xs.length + 1 ≤ 140737488355328 := Nat.le_trans (Nat.le_mul_of_pos_right _ hb0) hbytes
  refine wpList_append_own_at (P := P) (w := w.alloc (.cells (E x).toArray e)) hgd s y t ho base e i z k bytes el.und hi hz0 hz1 hz2 el.zc el.pos v xs.length (xs.flatMap E) hs (hown.alloc _) ⟨w.heap.size, 0, none⟩ 1 c (E x) hy (by rw [hE, Nat.one_mul])
    (fun j u hu => ?_) h1 (by unfold maxLen; omega) hbytes (by simp; omega) ?_
  · have hadd : (⟨w.heap.size, 0, none⟩ : Addr).add j = ⟨w.heap.size, j, none⟩ := by unfold Addr.add; split <;> simp_all
    rw [hadd, World.cell?_alloc_new]
    simpa using hu
  · intro v' w' h2 h3 _ h5
    refine h v' w' (by simpa using h2) ((((Below.refl base w).alloc hbase _)).trans (own_below (hown.alloc _) (by simp; omega) h3)) ?_ h3
    rcases h5 with h5 | h5
    · exact .inl h5
    · exact .inr ⟨_, h5, by simp⟩
theorem ownsRow_below {lo k n : Nat} {e : TypeId} {v : Value} {cs : List Value} {w w' : World} (h : w.ownsRow lo e k v n cs) {B : Nat} (hb : Below B w w') (hB : w.heap.size ≤ B) : w'.ownsRow lo e k v n cs := by
  have hlt := h.lt
  obtain ⟨hl, hs⟩ := h
  refine ⟨hl, ?_⟩
  rcases hs with hs | ⟨g, cap, cur, rfl, hg, hh, r⟩
  · exact .inl hs
  · exact .inr ⟨g, cap, cur, rfl, hg, (hb.block g (by have := hlt g rfl; omega)).trans hh, r⟩
theorem ownsRow_below' {lo k n m cap g : Nat} {e : TypeId} {cs : List Value} {w w' : World} (h : w.ownsRow lo e k (.slice (some ⟨g, 0, none⟩) m cap) n cs) {B : Nat} (hb : Below B w w') (hB : g < B) : w'.ownsRow lo e k (.slice (some ⟨g, 0, none⟩) m cap) n cs := by
  obtain ⟨hl, hs⟩ := h
  refine ⟨hl, ?_⟩
  rcases hs with ⟨h1, _⟩ | ⟨g', cap', cur, hv, hg, hh, r⟩
  · cases h1
  · have he : g' = g := by injection hv with h1; injection h1 with h1; injection h1 with h1; exact h1.symm
    subst he
    exact .inr ⟨g', cap', cur, hv, hg, (hb.block g' hB).trans hh, r⟩
end
end Go.Proofs.YtallglnmeeahiaaGreat
namespace Go.Proofs.YtallglnmeeahiaaGreat
set_option linter.unusedVariables false
set_option linter.unusedSimpArgs false
open Go.RowKit
section
variable {P : Program} {ops : Array Oper} {md : Region.Mode} {C : World → Prop}
end
end Go.Proofs.YtallglnmeeahiaaGreat
namespace Go.Proofs.YtallglnmeeahiaaGreat
set_option linter.unusedVariables false
set_option linter.unusedSimpArgs false
open Go.ChangeShapes Go.WideShapes Go.ChangeAt Go.RowKit
attribute [local go_sem] ext_cell ext_frozen ext_lt ext_lt1 ext_lt2 ext_lt3 ltn2 ltn3 ltn13 lts1 lts2 lts3
theorem big_yes (A : Option Addr) (n c : Nat) (w : World) (h : 1048576 < n) (hn : n ≤ maxLen) :
    Calls Tryz.prog 5 #[.slice A n c] w fun e w' => e = .returned (.bool true) ∧ w = w' := by
  unfold maxLen at hn
  have hd : decide (1048576 < (n : Int)) = true := decide_eq_true (by omega)
  go_enter Tryz.func5, Tryz.ntmps5
  go_wp2
  go_ret
  exact ⟨rfl, rfl⟩
theorem big_no (A : Option Addr) (n c : Nat) (w : World) (h : ¬ 1048576 < n) :
    Calls Tryz.prog 5 #[.slice A n c] w fun e w' => e = .returned (.bool false) ∧ w = w' := by
  have hd : decide (1048576 < (n : Int)) = false := decide_eq_false (by omega)
  go_enter Tryz.func5, Tryz.ntmps5
  go_wp2
  go_ret
  exact ⟨rfl, rfl⟩
set_option maxHeartbeats 400000 in
theorem sameInts_same (v1 v2 : Value) (xs : List Int) (w : World) (hv1 : SlE w cI 1 v1 xs) (hv2 : SlE w cI 1 v2 xs) :
    Calls Tryz.prog 8 #[v1, v2] w fun e w' => e = .returned (.bool true) ∧ Below w.heap.size w w' := by
  obtain ⟨A1, c1, rfl, hl1, hm1, hx1⟩ := hv1
  obtain ⟨A2, c2, rfl, hl2, hm2, hx2⟩ := hv2
  unfold maxLen at hm1 hm2
  go_enter Tryz.func8, Tryz.ntmps8
  go_wp2
  go_loopw [5] (fun i wr => ∃ (k : Nat) (u : World), k ≤ xs.length ∧ i = .int .i64 k ∧ wr = ext w u) (fun i _ => xs.length - (intOf i).toNat)
  case atStart => exact ⟨0, w, Nat.zero_le _, rfl, ext_self w⟩
  case round =>
    obtain ⟨k, u, hk, rfl, rfl⟩ := hrel
    by_cases hlt : k < xs.length
    · obtain ⟨b1, o1, rfl, -, hb1, hc1⟩ := hx1 k xs[k] (List.getElem?_eq_getElem hlt)
      obtain ⟨b2, o2, rfl, -, hb2, hc2⟩ := hx2 k xs[k] (List.getElem?_eq_getElem hlt)
      generalize xs[k] = x at hc1 hc2
      have c10 := hc1 0 _ rfl
      have c20 := hc2 0 _ rfl
      simp only [Nat.add_zero, Nat.mul_one] at c10 c20
      clear hc1 hc2 hx1 hx2
      go_wp2
      refine wp_region_ext_lit (by kernel_rfl) (by kernel_rfl) ?_
      repeat (go_big_quiet_step (fail))
      refine wpQuiet_nil ?_
      intro _ hw'
      obtain ⟨u2, hw''⟩ := hw'
      subst hw''
      go_wp2
      go_roundw
      case rel =>
        obtain ⟨y, hy⟩ := ext_ext w u u2
        exact ⟨k + 1, y, by omega, by go_num, hy⟩
      case measure => simp [intOf]; omega
    · go_wp2
      go_ret
      exact ⟨rfl, ext_below _ _⟩
end Go.Proofs.YtallglnmeeahiaaGreat
namespace Go.Proofs.YtallglnmeeahiaaGreat
set_option linter.unusedVariables false
set_option linter.unusedSimpArgs false
open Go.ChangeShapes Go.WideShapes Go.ChangeAt Go.RowKit
attribute [local go_sem] ext_cell ext_frozen ext_lt ext_lt1 ext_lt2 ext_lt3 ltn2 ltn3 ltn13 lts1 lts2 lts3
theorem elInt : ElemOk Tryz.prog 24 3 (.int .i64 0) 1 8 := ⟨Tryz.underlying24, by kernel_rfl, rfl, by omega⟩
end Go.Proofs.YtallglnmeeahiaaGreat
namespace Go.Proofs.YtallglnmeeahiaaGreat
set_option linter.unusedVariables false
set_option linter.unusedSimpArgs false
open Go.ChangeShapes Go.WideShapes Go.ChangeAt Go.RowKit
attribute [local go_sem] ext_cell ext_frozen ext_lt ext_lt1 ext_lt2 ext_lt3 ltn2 ltn3 ltn13 lts1 lts2 lts3
end Go.Proofs.YtallglnmeeahiaaGreat
namespace Go.Proofs.YtallglnmeeahiaaGreat
set_option linter.unusedVariables false
set_option linter.unusedSimpArgs false
open Go.ChangeShapes Go.WideShapes Go.ChangeAt Go.RowKit
attribute [local go_sem] ext_cell ext_frozen ext_lt ext_lt1 ext_lt2 ext_lt3 ltn2 ltn3 ltn13 lts1 lts2 lts3
def GrO (lo hi : Nat) (w : World) (v : Value) (g : Gr) : Prop :=
  ∃ vs es mid, v = .agg #[vs, es] ∧ Own lo mid w 3 cI 1 vs g.vals ∧ Own mid hi w 106 cEd 4 es g.edges ∧ lo ≤ mid ∧ mid ≤ hi
theorem GrO.view {lo hi : Nat} {w : World} {v : Value} {g : Gr} (h : GrO lo hi w v g) : GrV lo hi w v g := by
  obtain ⟨vs, es, mid, rfl, h1, h2, h3, h4⟩ := h
  exact ⟨vs, es, rfl, (h1.sl cI_len).mono (Nat.le_refl _) h4, (h2.sl cEd_len).mono h3 (Nat.le_refl _)⟩
theorem GrO.below {lo hi : Nat} {w w' : World} {v : Value} {g : Gr} (h : GrO lo hi w v g) {B : Nat} (hb : Below B w w') (hB : hi ≤ B) : GrO lo hi w' v g := by
  obtain ⟨vs, es, mid, rfl, h1, h2, h3, h4⟩ := h
  exact ⟨vs, es, mid, rfl, h1.below hb (by omega), h2.below hb hB, h3, h4⟩
end Go.Proofs.YtallglnmeeahiaaGreat
namespace Go.Proofs.YtallglnmeeahiaaGreat
set_option linter.unusedVariables false
set_option linter.unusedSimpArgs false
open Go.ChangeShapes Go.WideShapes Go.ChangeAt Go.RowKit
attribute [local go_sem] ext_cell ext_frozen ext_lt ext_lt1 ext_lt2 ext_lt3 ltn2 ltn3 ltn13 lts1 lts2 lts3
theorem elBool : ElemOk Tryz.prog 28 4 (.bool false) 1 1 := ⟨Tryz.underlying28, by kernel_rfl, rfl, by omega⟩
end Go.Proofs.YtallglnmeeahiaaGreat
namespace Go.Proofs.YtallglnmeeahiaaGreat
set_option linter.unusedVariables false
set_option linter.unusedSimpArgs false
open Go.ChangeShapes Go.WideShapes Go.ChangeAt Go.RowKit
attribute [local go_sem] ext_cell ext_frozen ext_lt ext_lt1 ext_lt2 ext_lt3 ltn2 ltn3 ltn13 lts1 lts2 lts3
/-- rows of the call's own, one behind the other in memory -/
def RowsO (w : World) : Nat → Nat → List Value → List (List Int) → Prop
  | lo, hi, [], [] => lo ≤ hi
  | lo, hi, u :: us, xs :: xss => ∃ mid, lo ≤ mid ∧ Own lo mid w 3 cI 1 u xs ∧ RowsO w mid hi us xss
  | _, _, _, _ => False
theorem RowsO.le {w : World} : ∀ {us : List Value} {xss : List (List Int)} {lo hi : Nat}, RowsO w lo hi us xss → lo ≤ hi
  | [], [], _, _, h => h
  | _ :: _, _ :: _, _, _, ⟨mid, h1, _, h3⟩ => Nat.le_trans h1 (RowsO.le h3)
  | [], _ :: _, _, _, h => h.elim
  | _ :: _, [], _, _, h => h.elim
theorem RowsO.len {w : World} : ∀ {us : List Value} {xss : List (List Int)} {lo hi : Nat}, RowsO w lo hi us xss → us.length = xss.length
  | [], [], _, _, _ => rfl
  | _ :: _, _ :: _, _, _, ⟨_, _, _, h3⟩ => by simp [RowsO.len h3]
  | [], _ :: _, _, _, h => h.elim
  | _ :: _, [], _, _, h => h.elim
theorem RowsO.below {w w' : World} {B : Nat} (hb : Below B w w') : ∀ {us : List Value} {xss : List (List Int)} {lo hi : Nat}, RowsO w lo hi us xss → hi ≤ B → RowsO w' lo hi us xss
  | [], [], _, _, h, _ => h
  | _ :: _, _ :: _, _, _, ⟨mid, h1, h2, h3⟩, hB => ⟨mid, h1, h2.below hb (Nat.le_trans (RowsO.le h3) hB), RowsO.below hb h3 hB⟩
  | [], _ :: _, _, _, h, _ => h.elim
  | _ :: _, [], _, _, h, _ => h.elim
theorem RowsO.only {w w' : World} {l r : Nat} (hb : Only l r w w') : ∀ {us : List Value} {xss : List (List Int)} {lo hi : Nat}, RowsO w lo hi us xss → (hi ≤ l ∨ r ≤ lo) → RowsO w' lo hi us xss
  | [], [], _, _, h, _ => h
  | _ :: _, _ :: _, lo, hi, ⟨mid, h1, h2, h3⟩, ho => ⟨mid, h1, h2.only hb (by have := RowsO.le h3; omega), RowsO.only hb h3 (by omega)⟩
  | [], _ :: _, _, _, h, _ => h.elim
  | _ :: _, [], _, _, h, _ => h.elim
theorem RowsO.mono {w : World} : ∀ {us : List Value} {xss : List (List Int)} {lo hi lo' hi' : Nat}, RowsO w lo hi us xss → lo' ≤ lo → hi ≤ hi' → RowsO w lo' hi' us xss
  | [], [], _, _, _, _, h, h1, h2 => by simp only [RowsO] at h ⊢; omega
  | _ :: _, _ :: _, _, _, _, _, ⟨mid, h1, h2, h3⟩, g1, g2 => ⟨mid, by omega, h2.mono g1 (Nat.le_refl _), RowsO.mono h3 (Nat.le_refl _) g2⟩
  | [], _ :: _, _, _, _, _, h, _, _ => h.elim
  | _ :: _, [], _, _, _, _, h, _, _ => h.elim
theorem RowsO.at_ {w : World} : ∀ {us : List Value} {xss : List (List Int)} {lo hi : Nat}, RowsO w lo hi us xss → ∀ (i : Nat) (u : Value) (xs : List Int), us[i]? = some u → xss[i]? = some xs → SlI lo hi w cI 1 u xs
  | [], [], _, _, _, _, _, _, h, _ => by simp at h
  | _ :: _, _ :: _, _, _, ⟨mid, h1, h2, h3⟩, i, u, xs, hu, hx => by
    cases i with
    | zero =>
      simp only [List.getElem?_cons_zero, Option.some.injEq] at hu hx
      subst hu hx
      exact (h2.sl cI_len).mono (Nat.le_refl _) (RowsO.le h3)
    | succ i => exact (RowsO.at_ h3 i u xs (by simpa using hu) (by simpa using hx)).mono h1 (Nat.le_refl _)
  | [], _ :: _, _, _, h, _, _, _, _, _ => h.elim
  | _ :: _, [], _, _, h, _, _, _, _, _ => h.elim
def SSO (lo hi : Nat) (w : World) (v : Value) (xss : List (List Int)) : Prop :=
  ∃ us mid, Own lo mid w 24 cV 1 v us ∧ RowsO w mid hi us xss ∧ lo ≤ mid
theorem SSO.view {lo hi : Nat} {w : World} {v : Value} {xss : List (List Int)} (h : SSO lo hi w v xss) : SSV lo hi w v xss := by
  obtain ⟨us, mid, h1, h2, h3⟩ := h
  exact ⟨us, (h1.sl cV_len).mono (Nat.le_refl _) h2.le, h2.len, fun i u xs hu hx => (h2.at_ i u xs hu hx).mono h3 (Nat.le_refl _)⟩
theorem SSO.below {lo hi : Nat} {w w' : World} {v : Value} {xss : List (List Int)} (h : SSO lo hi w v xss) {B : Nat} (hb : Below B w w') (hB : hi ≤ B) : SSO lo hi w' v xss := by
  obtain ⟨us, mid, h1, h2, h3⟩ := h
  exact ⟨us, mid, h1.below hb (Nat.le_trans h2.le hB), h2.below hb hB, h3⟩
theorem SSO.only {lo hi : Nat} {w w' : World} {v : Value} {xss : List (List Int)} (h : SSO lo hi w v xss) {l r : Nat} (hb : Only l r w w') (ho : hi ≤ l ∨ r ≤ lo) : SSO lo hi w' v xss := by
  obtain ⟨us, mid, h1, h2, h3⟩ := h
  have := h2.le
  exact ⟨us, mid, h1.only hb (by omega), h2.only hb (by omega), h3⟩
theorem SSO.mono {lo hi : Nat} {w : World} {v : Value} {xss : List (List Int)} (h : SSO lo hi w v xss) {lo' hi' : Nat} (g1 : lo' ≤ lo) (g2 : hi ≤ hi') : SSO lo' hi' w v xss := by
  obtain ⟨us, mid, h1, h2, h3⟩ := h
  exact ⟨us, mid, h1.mono g1 (Nat.le_refl _), h2.mono (Nat.le_refl _) g2, by omega⟩
def AuO (lo hi : Nat) (w : World) (v : Value) (a : Au) : Prop :=
  ∃ ac nx mid, v = .agg #[.int .i64 a.start, ac, nx] ∧ Own lo mid w 4 cB 1 ac a.accept ∧ SSO mid hi w nx a.next ∧ lo ≤ mid ∧ mid ≤ hi
theorem AuO.view {lo hi : Nat} {w : World} {v : Value} {a : Au} (h : AuO lo hi w v a) : AuV lo hi w v a := by
  obtain ⟨ac, nx, mid, rfl, h1, h2, h3, h4⟩ := h
  exact ⟨ac, nx, rfl, (h1.sl cB_len).mono (Nat.le_refl _) h4, h2.view.mono h3 (Nat.le_refl _)⟩
theorem AuO.below {lo hi : Nat} {w w' : World} {v : Value} {a : Au} (h : AuO lo hi w v a) {B : Nat} (hb : Below B w w') (hB : hi ≤ B) : AuO lo hi w' v a := by
  obtain ⟨ac, nx, mid, rfl, h1, h2, h3, h4⟩ := h
  exact ⟨ac, nx, mid, rfl, h1.below hb (by omega), h2.below hb hB, h3, h4⟩
theorem elSS : ElemOk Tryz.prog 29 24 (.slice none 0 0) 1 24 := ⟨Tryz.underlying29, by kernel_rfl, rfl, by omega⟩
end Go.Proofs.YtallglnmeeahiaaGreat
namespace Go.Proofs.YtallglnmeeahiaaGreat
set_option linter.unusedVariables false
set_option linter.unusedSimpArgs false
open Go.ChangeShapes Go.WideShapes Go.ChangeAt Go.RowKit
section
variable {w w' : World}
theorem kcell (hb : Below w.heap.size w w') {p : Addr} {v : Value} (h : w.cell? p = some v) : w'.cell? p = some v := (hb.cell (World.block_lt_of_cell? w _ h)).trans h
theorem kfb (hb : Below w.heap.size w w') {p : Addr} {v : Value} (hc : w.cell? p = some v) (hf : w.frozen? p = false) : w'.frozen? p = false := (hb.frozen (World.block_lt_of_cell? w _ hc)).trans hf
theorem kB2 {p0 p1 : Addr} {v0 v1 : Value} (hb : Below w.heap.size w w') (h : w.cell? p0 = some v0 ∧ w.cell? p1 = some v1) : w'.cell? p0 = some v0 ∧ w'.cell? p1 = some v1 := by
  obtain ⟨c0, c1⟩ := h
  exact ⟨kcell hb c0, kcell hb c1⟩
theorem kB3 {p0 p1 p2 : Addr} {v0 v1 v2 : Value} (hb : Below w.heap.size w w') (h : w.cell? p0 = some v0 ∧ w.cell? p1 = some v1 ∧ w.cell? p2 = some v2) : w'.cell? p0 = some v0 ∧ w'.cell? p1 = some v1 ∧ w'.cell? p2 = some v2 := by
  obtain ⟨c0, c1, c2⟩ := h
  exact ⟨kcell hb c0, kcell hb c1, kcell hb c2⟩
theorem kA3 {p0 p1 p2 : Addr} {v0 v1 v2 : Value} (o : Obj) (h : w.cell? p0 = some v0 ∧ w.cell? p1 = some v1 ∧ w.cell? p2 = some v2) : (w.alloc o).cell? p0 = some v0 ∧ (w.alloc o).cell? p1 = some v1 ∧ (w.alloc o).cell? p2 = some v2 := kB3 ((Below.refl _ _).alloc (Nat.le_refl _) _) h
theorem kB4 {p0 p1 p2 p3 : Addr} {v0 v1 v2 v3 : Value} (hb : Below w.heap.size w w') (h : w.cell? p0 = some v0 ∧ w.cell? p1 = some v1 ∧ w.cell? p2 = some v2 ∧ w.cell? p3 = some v3) : w'.cell? p0 = some v0 ∧ w'.cell? p1 = some v1 ∧ w'.cell? p2 = some v2 ∧ w'.cell? p3 = some v3 := by
  obtain ⟨c0, c1, c2, c3⟩ := h
  exact ⟨kcell hb c0, kcell hb c1, kcell hb c2, kcell hb c3⟩
theorem kB5 {p0 p1 p2 p3 p4 : Addr} {v0 v1 v2 v3 v4 : Value} (hb : Below w.heap.size w w') (h : w.cell? p0 = some v0 ∧ w.cell? p1 = some v1 ∧ w.cell? p2 = some v2 ∧ w.cell? p3 = some v3 ∧ w.cell? p4 = some v4) : w'.cell? p0 = some v0 ∧ w'.cell? p1 = some v1 ∧ w'.cell? p2 = some v2 ∧ w'.cell? p3 = some v3 ∧ w'.cell? p4 = some v4 := by
  obtain ⟨c0, c1, c2, c3, c4⟩ := h
  exact ⟨kcell hb c0, kcell hb c1, kcell hb c2, kcell hb c3, kcell hb c4⟩
theorem kA5 {p0 p1 p2 p3 p4 : Addr} {v0 v1 v2 v3 v4 : Value} (o : Obj) (h : w.cell? p0 = some v0 ∧ w.cell? p1 = some v1 ∧ w.cell? p2 = some v2 ∧ w.cell? p3 = some v3 ∧ w.cell? p4 = some v4) : (w.alloc o).cell? p0 = some v0 ∧ (w.alloc o).cell? p1 = some v1 ∧ (w.alloc o).cell? p2 = some v2 ∧ (w.alloc o).cell? p3 = some v3 ∧ (w.alloc o).cell? p4 = some v4 := kB5 ((Below.refl _ _).alloc (Nat.le_refl _) _) h
theorem kG5 {p0 p1 p2 p3 p4 : Addr} {v0 v1 v2 v3 v4 : Value} {row : Option Nat} (hg : w.grownBy w' row) (n0 : some p0.block ≠ row) (n1 : some p1.block ≠ row) (n2 : some p2.block ≠ row) (n3 : some p3.block ≠ row) (n4 : some p4.block ≠ row) (h : w.cell? p0 = some v0 ∧ w.cell? p1 = some v1 ∧ w.cell? p2 = some v2 ∧ w.cell? p3 = some v3 ∧ w.cell? p4 = some v4) : w'.cell? p0 = some v0 ∧ w'.cell? p1 = some v1 ∧ w'.cell? p2 = some v2 ∧ w'.cell? p3 = some v3 ∧ w'.cell? p4 = some v4 := by
  obtain ⟨c0, c1, c2, c3, c4⟩ := h
  exact ⟨hg.cell c0 n0, hg.cell c1 n1, hg.cell c2 n2, hg.cell c3 n3, hg.cell c4 n4⟩
theorem kB6 {p0 p1 p2 p3 p4 p5 : Addr} {v0 v1 v2 v3 v4 v5 : Value} (hb : Below w.heap.size w w') (h : w.cell? p0 = some v0 ∧ w.cell? p1 = some v1 ∧ w.cell? p2 = some v2 ∧ w.cell? p3 = some v3 ∧ w.cell? p4 = some v4 ∧ w.cell? p5 = some v5) : w'.cell? p0 = some v0 ∧ w'.cell? p1 = some v1 ∧ w'.cell? p2 = some v2 ∧ w'.cell? p3 = some v3 ∧ w'.cell? p4 = some v4 ∧ w'.cell? p5 = some v5 := by
  obtain ⟨c0, c1, c2, c3, c4, c5⟩ := h
  exact ⟨kcell hb c0, kcell hb c1, kcell hb c2, kcell hb c3, kcell hb c4, kcell hb c5⟩
theorem kA6 {p0 p1 p2 p3 p4 p5 : Addr} {v0 v1 v2 v3 v4 v5 : Value} (o : Obj) (h : w.cell? p0 = some v0 ∧ w.cell? p1 = some v1 ∧ w.cell? p2 = some v2 ∧ w.cell? p3 = some v3 ∧ w.cell? p4 = some v4 ∧ w.cell? p5 = some v5) : (w.alloc o).cell? p0 = some v0 ∧ (w.alloc o).cell? p1 = some v1 ∧ (w.alloc o).cell? p2 = some v2 ∧ (w.alloc o).cell? p3 = some v3 ∧ (w.alloc o).cell? p4 = some v4 ∧ (w.alloc o).cell? p5 = some v5 := kB6 ((Below.refl _ _).alloc (Nat.le_refl _) _) h
theorem kG6 {p0 p1 p2 p3 p4 p5 : Addr} {v0 v1 v2 v3 v4 v5 : Value} {row : Option Nat} (hg : w.grownBy w' row) (n0 : some p0.block ≠ row) (n1 : some p1.block ≠ row) (n2 : some p2.block ≠ row) (n3 : some p3.block ≠ row) (n4 : some p4.block ≠ row) (n5 : some p5.block ≠ row) (h : w.cell? p0 = some v0 ∧ w.cell? p1 = some v1 ∧ w.cell? p2 = some v2 ∧ w.cell? p3 = some v3 ∧ w.cell? p4 = some v4 ∧ w.cell? p5 = some v5) : w'.cell? p0 = some v0 ∧ w'.cell? p1 = some v1 ∧ w'.cell? p2 = some v2 ∧ w'.cell? p3 = some v3 ∧ w'.cell? p4 = some v4 ∧ w'.cell? p5 = some v5 := by
  obtain ⟨c0, c1, c2, c3, c4, c5⟩ := h
  exact ⟨hg.cell c0 n0, hg.cell c1 n1, hg.cell c2 n2, hg.cell c3 n3, hg.cell c4 n4, hg.cell c5 n5⟩
theorem kB7 {p0 p1 p2 p3 p4 p5 p6 : Addr} {v0 v1 v2 v3 v4 v5 v6 : Value} (hb : Below w.heap.size w w') (h : w.cell? p0 = some v0 ∧ w.cell? p1 = some v1 ∧ w.cell? p2 = some v2 ∧ w.cell? p3 = some v3 ∧ w.cell? p4 = some v4 ∧ w.cell? p5 = some v5 ∧ w.cell? p6 = some v6) : w'.cell? p0 = some v0 ∧ w'.cell? p1 = some v1 ∧ w'.cell? p2 = some v2 ∧ w'.cell? p3 = some v3 ∧ w'.cell? p4 = some v4 ∧ w'.cell? p5 = some v5 ∧ w'.cell? p6 = some v6 := by
  obtain ⟨c0, c1, c2, c3, c4, c5, c6⟩ := h
  exact ⟨kcell hb c0, kcell hb c1, kcell hb c2, kcell hb c3, kcell hb c4, kcell hb c5, kcell hb c6⟩
theorem kA7 {p0 p1 p2 p3 p4 p5 p6 : Addr} {v0 v1 v2 v3 v4 v5 v6 : Value} (o : Obj) (h : w.cell? p0 = some v0 ∧ w.cell? p1 = some v1 ∧ w.cell? p2 = some v2 ∧ w.cell? p3 = some v3 ∧ w.cell? p4 = some v4 ∧ w.cell? p5 = some v5 ∧ w.cell? p6 = some v6) : (w.alloc o).cell? p0 = some v0 ∧ (w.alloc o).cell? p1 = some v1 ∧ (w.alloc o).cell? p2 = some v2 ∧ (w.alloc o).cell? p3 = some v3 ∧ (w.alloc o).cell? p4 = some v4 ∧ (w.alloc o).cell? p5 = some v5 ∧ (w.alloc o).cell? p6 = some v6 := kB7 ((Below.refl _ _).alloc (Nat.le_refl _) _) h
theorem kS7 {p0 p1 p2 p3 p4 p5 p6 q : Addr} {v0 v1 v2 v3 v4 v5 v6 x : Value} (n0 : q.block ≠ p0.block) (n1 : q.block ≠ p1.block) (n2 : q.block ≠ p2.block) (n3 : q.block ≠ p3.block) (n4 : q.block ≠ p4.block) (n5 : q.block ≠ p5.block) (n6 : q.block ≠ p6.block) (h : w.cell? p0 = some v0 ∧ w.cell? p1 = some v1 ∧ w.cell? p2 = some v2 ∧ w.cell? p3 = some v3 ∧ w.cell? p4 = some v4 ∧ w.cell? p5 = some v5 ∧ w.cell? p6 = some v6) : (w.setCell q x).cell? p0 = some v0 ∧ (w.setCell q x).cell? p1 = some v1 ∧ (w.setCell q x).cell? p2 = some v2 ∧ (w.setCell q x).cell? p3 = some v3 ∧ (w.setCell q x).cell? p4 = some v4 ∧ (w.setCell q x).cell? p5 = some v5 ∧ (w.setCell q x).cell? p6 = some v6 := by
  obtain ⟨c0, c1, c2, c3, c4, c5, c6⟩ := h
  exact ⟨(World.cell?_setCell_far _ _ _ _ n0).trans c0, (World.cell?_setCell_far _ _ _ _ n1).trans c1, (World.cell?_setCell_far _ _ _ _ n2).trans c2, (World.cell?_setCell_far _ _ _ _ n3).trans c3, (World.cell?_setCell_far _ _ _ _ n4).trans c4, (World.cell?_setCell_far _ _ _ _ n5).trans c5, (World.cell?_setCell_far _ _ _ _ n6).trans c6⟩
theorem kB8 {p0 p1 p2 p3 p4 p5 p6 p7 : Addr} {v0 v1 v2 v3 v4 v5 v6 v7 : Value} (hb : Below w.heap.size w w') (h : w.cell? p0 = some v0 ∧ w.cell? p1 = some v1 ∧ w.cell? p2 = some v2 ∧ w.cell? p3 = some v3 ∧ w.cell? p4 = some v4 ∧ w.cell? p5 = some v5 ∧ w.cell? p6 = some v6 ∧ w.cell? p7 = some v7) : w'.cell? p0 = some v0 ∧ w'.cell? p1 = some v1 ∧ w'.cell? p2 = some v2 ∧ w'.cell? p3 = some v3 ∧ w'.cell? p4 = some v4 ∧ w'.cell? p5 = some v5 ∧ w'.cell? p6 = some v6 ∧ w'.cell? p7 = some v7 := by
  obtain ⟨c0, c1, c2, c3, c4, c5, c6, c7⟩ := h
  exact ⟨kcell hb c0, kcell hb c1, kcell hb c2, kcell hb c3, kcell hb c4, kcell hb c5, kcell hb c6, kcell hb c7⟩
theorem kB10 {p0 p1 p2 p3 p4 p5 p6 p7 p8 p9 : Addr} {v0 v1 v2 v3 v4 v5 v6 v7 v8 v9 : Value} (hb : Below w.heap.size w w') (h : w.cell? p0 = some v0 ∧ w.cell? p1 = some v1 ∧ w.cell? p2 = some v2 ∧ w.cell? p3 = some v3 ∧ w.cell? p4 = some v4 ∧ w.cell? p5 = some v5 ∧ w.cell? p6 = some v6 ∧ w.cell? p7 = some v7 ∧ w.cell? p8 = some v8 ∧ w.cell? p9 = some v9) : w'.cell? p0 = some v0 ∧ w'.cell? p1 = some v1 ∧ w'.cell? p2 = some v2 ∧ w'.cell? p3 = some v3 ∧ w'.cell? p4 = some v4 ∧ w'.cell? p5 = some v5 ∧ w'.cell? p6 = some v6 ∧ w'.cell? p7 = some v7 ∧ w'.cell? p8 = some v8 ∧ w'.cell? p9 = some v9 := by
  obtain ⟨c0, c1, c2, c3, c4, c5, c6, c7, c8, c9⟩ := h
  exact ⟨kcell hb c0, kcell hb c1, kcell hb c2, kcell hb c3, kcell hb c4, kcell hb c5, kcell hb c6, kcell hb c7, kcell hb c8, kcell hb c9⟩
theorem kA10 {p0 p1 p2 p3 p4 p5 p6 p7 p8 p9 : Addr} {v0 v1 v2 v3 v4 v5 v6 v7 v8 v9 : Value} (o : Obj) (h : w.cell? p0 = some v0 ∧ w.cell? p1 = some v1 ∧ w.cell? p2 = some v2 ∧ w.cell? p3 = some v3 ∧ w.cell? p4 = some v4 ∧ w.cell? p5 = some v5 ∧ w.cell? p6 = some v6 ∧ w.cell? p7 = some v7 ∧ w.cell? p8 = some v8 ∧ w.cell? p9 = some v9) : (w.alloc o).cell? p0 = some v0 ∧ (w.alloc o).cell? p1 = some v1 ∧ (w.alloc o).cell? p2 = some v2 ∧ (w.alloc o).cell? p3 = some v3 ∧ (w.alloc o).cell? p4 = some v4 ∧ (w.alloc o).cell? p5 = some v5 ∧ (w.alloc o).cell? p6 = some v6 ∧ (w.alloc o).cell? p7 = some v7 ∧ (w.alloc o).cell? p8 = some v8 ∧ (w.alloc o).cell? p9 = some v9 := kB10 ((Below.refl _ _).alloc (Nat.le_refl _) _) h
end
end Go.Proofs.YtallglnmeeahiaaGreat
namespace Go.Proofs.YtallglnmeeahiaaGreat
set_option linter.unusedVariables false
set_option linter.unusedSimpArgs false
theorem exists_least_nat {p : Nat → Prop} (h : ∃ n, p n) : ∃ n, p n ∧ ∀ m, p m → n ≤ m := by
  obtain ⟨n, hn⟩ := h
  induction n using Nat.strongRecOn with
  | _ n ih =>
    by_cases hm : ∃ m, m < n ∧ p m
    · obtain ⟨m, hlt, hp⟩ := hm
      exact ih m hlt hp
    · exact ⟨n, hn, fun m hp => Nat.le_of_not_lt fun hlt => hm ⟨m, hlt, hp⟩⟩
/-- n is in the range a to b -/
def wi (n a b : Int) : Bool := decide (a ≤ n) && decide (n ≤ b)
theorem wi_iff {n a b : Int} : wi n a b = true ↔ a ≤ n ∧ n ≤ b := by simp [wi]
def rowOk (n : Int) (row : List Int) : Bool := row.all (fun t => wi t (-1) (n - 1)) && (row.length == 9)
def auOk (a : Au) : Bool := wi a.accept.length 1 12 && wi a.start 0 ((a.accept.length : Int) - 1) && (a.next.length == a.accept.length) && a.next.all (rowOk a.accept.length)
theorem auOk_iff {a : Au} : auOk a = true ↔ (1 ≤ a.accept.length ∧ a.accept.length ≤ 12) ∧ (0 ≤ a.start ∧ a.start ≤ (a.accept.length : Int) - 1) ∧ a.next.length = a.accept.length ∧ ∀ row ∈ a.next, rowOk a.accept.length row = true := by
  simp only [auOk, Bool.and_eq_true, wi_iff, beq_iff_eq, List.all_eq_true]
  constructor
  · rintro ⟨⟨⟨h1, h2⟩, h3⟩, h4⟩
    exact ⟨by omega, h2, h3, h4⟩
  · rintro ⟨h1, h2, h3, h4⟩
    exact ⟨⟨⟨by omega, h2⟩, h3⟩, h4⟩
theorem rowOk_iff {n : Int} {row : List Int} : rowOk n row = true ↔ (∀ t ∈ row, -1 ≤ t ∧ t ≤ n - 1) ∧ row.length = 9 := by
  simp only [rowOk, Bool.and_eq_true, List.all_eq_true, wi_iff, beq_iff_eq]
def edOk (n : Int) (e : Ed) : Bool := wi e.1 1 99 && wi e.2.1 0 (n - 1) && wi e.2.2.1 0 (n - 1) && wi e.2.2.2 0 2
/-- edge number i is fine, and its id is above the one before it -/
def edAt (n : Int) (es : List Ed) (i : Nat) : Bool :=
  match es[i]? with
  | none => true
  | some e => edOk n e && (decide (i = 0) || match es[i - 1]? with
    | some p => decide (p.1 < e.1)
    | none => true)
def grOk (g : Gr) : Bool := g.vals.all (fun v => wi v 0 2) && (List.range g.edges.length).all (edAt g.vals.length g.edges) && wi g.vals.length 1 5 && decide (g.edges.length ≤ 12)
theorem edOk_iff {n : Int} {e : Ed} : edOk n e = true ↔ (1 ≤ e.1 ∧ e.1 ≤ 99) ∧ (0 ≤ e.2.1 ∧ e.2.1 ≤ n - 1) ∧ (0 ≤ e.2.2.1 ∧ e.2.2.1 ≤ n - 1) ∧ (0 ≤ e.2.2.2 ∧ e.2.2.2 ≤ 2) := by
  simp only [edOk, Bool.and_eq_true, wi_iff, and_assoc]
structure GrOk (g : Gr) : Prop where
  n1 : 1 ≤ g.vals.length
  n5 : g.vals.length ≤ 5
  e12 : g.edges.length ≤ 12
  vals : ∀ v ∈ g.vals, 0 ≤ v ∧ v ≤ 2
  edges : ∀ e ∈ g.edges, (1 ≤ e.1 ∧ e.1 ≤ 99) ∧ (0 ≤ e.2.1 ∧ e.2.1 ≤ (g.vals.length : Int) - 1) ∧ (0 ≤ e.2.2.1 ∧ e.2.2.1 ≤ (g.vals.length : Int) - 1) ∧ (0 ≤ e.2.2.2 ∧ e.2.2.2 ≤ 2)
  asc : ∀ (i : Nat) (p e : Ed), g.edges[i]? = some p → g.edges[i + 1]? = some e → p.1 < e.1
theorem grOk_iff {g : Gr} : grOk g = true ↔ GrOk g := by
  simp only [grOk, Bool.and_eq_true, decide_eq_true_eq, List.all_eq_true, wi_iff, List.mem_range]
  constructor
  · rintro ⟨⟨⟨h1, h2⟩, h3⟩, h4⟩
    refine ⟨by omega, by omega, h4, h1, fun e he => ?_, fun i p e hp he => ?_⟩
    · obtain ⟨i, hi, hie⟩ := List.getElem_of_mem he
      have := h2 i hi
      rw [edAt, List.getElem?_eq_getElem hi, hie] at this
      simp only [Bool.and_eq_true] at this
      exact edOk_iff.1 this.1
    · have hi := (List.getElem?_eq_some_iff.1 he).1
      have := h2 (i + 1) hi
      rw [edAt, he] at this
      simp only [Bool.and_eq_true, Nat.add_sub_cancel, hp, Bool.or_eq_true, decide_eq_true_eq] at this
      rcases this.2 with h | h
      · omega
      · exact h
  · rintro ⟨h1, h2, h3, h4, h5, h6⟩
    refine ⟨⟨⟨h4, fun i hi => ?_⟩, by omega⟩, h3⟩
    rw [edAt, List.getElem?_eq_getElem hi]
    simp only [Bool.and_eq_true, Bool.or_eq_true, decide_eq_true_eq]
    refine ⟨edOk_iff.2 (h5 _ (List.getElem_mem hi)), ?_⟩
    by_cases h0 : i = 0
    · exact .inl h0
    · refine .inr ?_
      have hp : g.edges[i - 1]? = some g.edges[i - 1] := List.getElem?_eq_getElem (by omega)
      rw [hp]
      simp only [decide_eq_true_eq]
      exact h6 (i - 1) _ _ hp (by rw [show i - 1 + 1 = i by omega, List.getElem?_eq_getElem hi])
theorem range_all_succ {p : Nat → Bool} {i : Nat} (h : (List.range i).all p = true) (hp : p i = true) : (List.range (i + 1)).all p = true := by
  rw [List.range_succ, List.all_append, h]
  simp [hp]
theorem range_all_false {p : Nat → Bool} {n i : Nat} (hi : i < n) (hp : p i = false) : (List.range n).all p = false := by
  rw [List.all_eq_false]
  exact ⟨i, List.mem_range.2 hi, by simp [hp]⟩
/-- the place of the first edge with an id, -1 if there is none -/
def edgeIdx (g : Gr) (id : Int) : Int := match g.edges.findIdx? (fun e => e.1 == id) with
  | some i => i
  | none => -1
theorem edgeIdx_none {g : Gr} {id : Int} (h : ∀ e : Ed, e ∈ g.edges → ¬ e.1 = id) : edgeIdx g id = -1 := by
  have : g.edges.findIdx? (fun e => e.1 == id) = none := by
    rw [List.findIdx?_eq_none_iff]
    intro e he
    simpa using h e he
  rw [edgeIdx, this]
theorem edgeIdx_some {g : Gr} {id : Int} {i : Nat} {e : Ed} (hi : g.edges[i]? = some e) (he : e.1 = id) (h : ∀ y : Ed, y ∈ g.edges.take i → ¬ y.1 = id) : edgeIdx g id = i := by
  have : g.edges.findIdx? (fun e => e.1 == id) = some i := by
    rw [List.findIdx?_eq_some_iff_getElem]
    obtain ⟨hlt, hx⟩ := List.getElem?_eq_some_iff.1 hi
    refine ⟨hlt, by rw [hx]; simpa using he, fun j hj => ?_⟩
    have hm : g.edges[j] ∈ g.edges.take i := by
      rw [List.mem_take_iff_getElem]
      exact ⟨j, by omega, rfl⟩
    simpa using h _ hm
  rw [edgeIdx, this]
theorem edgeIdx_spec (g : Gr) (id : Int) : (edgeIdx g id = -1 ∧ ∀ e ∈ g.edges, ¬ e.1 = id) ∨ ∃ (i : Nat) (e : Ed), edgeIdx g id = i ∧ g.edges[i]? = some e ∧ e.1 = id ∧ ∀ y : Ed, y ∈ g.edges.take i → ¬ y.1 = id := by
  by_cases h : ∃ e ∈ g.edges, e.1 = id
  · right
    have hex : ∃ i : Nat, ∃ e : Ed, g.edges[i]? = some e ∧ e.1 = id := by
      obtain ⟨e, he, hid⟩ := h
      obtain ⟨i, hi, hie⟩ := List.getElem_of_mem he
      exact ⟨i, e, by rw [List.getElem?_eq_getElem hi, hie], hid⟩
    obtain ⟨i, ⟨e, he, hid⟩, hmin⟩ := exists_least_nat hex
    have hno : ∀ y : Ed, y ∈ g.edges.take i → ¬ y.1 = id := by
      intro y hy hyid
      rw [List.mem_take_iff_getElem] at hy
      obtain ⟨j, hj, hje⟩ := hy
      have := hmin j ⟨y, by rw [List.getElem?_eq_getElem (by omega), hje], hyid⟩
      omega
    exact ⟨i, e, edgeIdx_some he hid hno, he, hid, hno⟩
  · left
    have h2 : ∀ e ∈ g.edges, ¬ e.1 = id := fun e he hid => h ⟨e, he, hid⟩
    exact ⟨edgeIdx_none h2, h2⟩
/-- the edge with an id, of a valid graph -/
def stepEd (g : Gr) (id : Int) : Option Ed := if grOk g then g.edges.find? (fun e => e.1 == id) else none
theorem stepEd_bad {g : Gr} (id : Int) (h : grOk g = false) : stepEd g id = none := by simp [stepEd, h]
theorem stepEd_none {g : Gr} {id : Int} (h : ∀ e : Ed, e ∈ g.edges → ¬ e.1 = id) : stepEd g id = none := by
  unfold stepEd
  split
  · rw [List.find?_eq_none]
    intro e he
    simpa using h e he
  · rfl
theorem stepEd_some {g : Gr} {id : Int} {i : Nat} {e : Ed} (hg : grOk g = true) (hi : g.edges[i]? = some e) (he : e.1 = id) (h : ∀ y : Ed, y ∈ g.edges.take i → ¬ y.1 = id) : stepEd g id = some e := by
  rw [stepEd, if_pos hg, List.find?_eq_some_iff_getElem]
  obtain ⟨hlt, hx⟩ := List.getElem?_eq_some_iff.1 hi
  refine ⟨by simpa using he, i, hlt, hx, fun j hj => ?_⟩
  have hm : g.edges[j] ∈ g.edges.take i := by
    rw [List.mem_take_iff_getElem]
    exact ⟨j, by omega, rfl⟩
  simpa using h _ hm
theorem stepEd_ok {g : Gr} {id : Int} {e : Ed} (h : stepEd g id = some e) : GrOk g ∧ e ∈ g.edges ∧ e.1 = id := by
  unfold stepEd at h
  split at h
  · rename_i hg
    exact ⟨grOk_iff.1 hg, List.mem_of_find?_eq_some h, by simpa using List.find?_some h⟩
  · cases h
def stepFrom (g : Gr) (s : St) : Int := match stepEd g s.1 with
  | none => -1
  | some e => if s.2 then e.2.2.1 else e.2.1
def stepTo (g : Gr) (s : St) : Int := stepFrom g (s.1, !s.2)
def stepLetter (g : Gr) (s : St) : Int := match stepEd g s.1 with
  | none => -1
  | some e => if s.2 then 2 * e.2.2.2 + 1 else 2 * e.2.2.2
theorem stepFrom_range (g : Gr) (s : St) : stepFrom g s = -1 ∨ (0 ≤ stepFrom g s ∧ stepFrom g s ≤ (g.vals.length : Int) - 1 ∧ GrOk g) := by
  unfold stepFrom
  cases h : stepEd g s.1 with
  | none => exact .inl rfl
  | some e =>
    obtain ⟨hg, he, _⟩ := stepEd_ok h
    have := hg.edges e he
    refine .inr ?_
    simp only
    split
    · exact ⟨this.2.2.1.1, this.2.2.1.2, hg⟩
    · exact ⟨this.2.1.1, this.2.1.2, hg⟩
theorem stepFrom_neg {g : Gr} {s : St} : stepFrom g s < 0 ↔ stepEd g s.1 = none := by
  constructor
  · intro h
    cases he : stepEd g s.1 with
    | none => rfl
    | some e =>
      exfalso
      rcases stepFrom_range g s with h1 | h1
      · obtain ⟨hg, hm, _⟩ := stepEd_ok he
        have := hg.edges e hm
        rw [stepFrom, he] at h1
        simp only at h1
        split at h1 <;> omega
      · omega
  · intro h
    rw [stepFrom, h]
    simp
theorem all_take_succ {α : Type} {p : α → Bool} {xs : List α} {i : Nat} {x : α} (hx : xs[i]? = some x) (h : (xs.take i).all p = true) (hp : p x = true) : (xs.take (i + 1)).all p = true := by
  rw [take_snoc hx, List.all_append, h]
  simp [hp]
theorem all_false_of {α : Type} {p : α → Bool} {xs : List α} {i : Nat} {x : α} (hx : xs[i]? = some x) (hp : p x = false) : xs.all p = false := by
  rw [List.all_eq_false]
  exact ⟨x, List.mem_of_getElem? hx, by simp [hp]⟩
end Go.Proofs.YtallglnmeeahiaaGreat
namespace Go.Proofs.YtallglnmeeahiaaGreat
set_option linter.unusedVariables false
set_option linter.unusedSimpArgs false
def mem (n m : Nat) : List Nat := (List.range n).filter m.testBit
theorem mem_succ (n m : Nat) : mem (n + 1) m = mem n m ++ (if m.testBit n = true then [n] else []) := by
  unfold mem
  rw [List.range_succ, List.filter_append]
  congr 1
  cases h : m.testBit n <;> simp [h]
theorem mem_yes {n m : Nat} (h : m.testBit n = true) : mem (n + 1) m = mem n m ++ [n] := by rw [mem_succ, if_pos h]
theorem mem_no {n m : Nat} (h : m.testBit n = false) : mem (n + 1) m = mem n m := by rw [mem_succ, if_neg (by simp [h]), List.append_nil]
theorem mem_mem {n m t : Nat} : t ∈ mem n m ↔ t < n ∧ m.testBit t = true := by simp [mem]
theorem mem_stop {i n m : Nat} (h : m < 2 ^ i) (hn : i ≤ n) : mem n m = mem i m := by
  induction n with
  | zero =>
    have : i = 0 := by omega
    subst this; rfl
  | succ n ih =>
    by_cases h1 : i ≤ n
    · rw [mem_no (Nat.testBit_lt_two_pow (Nat.lt_of_lt_of_le h (Nat.pow_le_pow_right (by omega) h1))), ih h1]
    · have : i = n + 1 := by omega
      subst this; rfl
theorem mem_len (n m : Nat) : (mem n m).length ≤ n := by
  have := List.length_filter_le m.testBit (List.range n)
  rw [List.length_range] at this
  exact this
/-- {s}, and m with s put in: plain names, so that a walk leaves them alone -/
def bit (s : Nat) : Nat := 2 ^ s
def ins (m s : Nat) : Nat := m ||| 2 ^ s
theorem bit_test (s t : Nat) : (bit s).testBit t = decide (s = t) := by rw [bit, Nat.testBit_two_pow]
theorem ins_test (m s t : Nat) : (ins m s).testBit t = (m.testBit t || decide (s = t)) := by rw [ins, Nat.testBit_or, Nat.testBit_two_pow]
theorem bit_lt {n s : Nat} (h : s < n) : bit s < 2 ^ n := Nat.pow_lt_pow_right (by omega) h
theorem mem_pow_ge {n s : Nat} (h : n ≤ s) : mem n (bit s) = [] := by
  induction n with
  | zero => rfl
  | succ n ih => rw [mem_no (by rw [bit_test]; simp; omega), ih (by omega)]
theorem mem_pow {n s : Nat} (h : s < n) : mem n (bit s) = [s] := by
  induction n with
  | zero => omega
  | succ n ih =>
    by_cases hs : s = n
    · subst hs
      rw [mem_yes (by rw [bit_test]; simp), mem_pow_ge (Nat.le_refl _)]; rfl
    · rw [mem_no (by rw [bit_test]; simp; omega), ih (by omega)]
theorem mem_or_ge {n m t : Nat} (h : n ≤ t) : mem n (ins m t) = mem n m := by
  unfold mem
  apply List.filter_congr
  intro x hx
  have := List.mem_range.1 hx
  rw [ins_test]
  have h2 : ¬ t = x := by omega
  simp [h2]
theorem cnt_or {n m t : Nat} (ht : t < n) (hm : m.testBit t = false) : (mem n (ins m t)).length = (mem n m).length + 1 := by
  induction n with
  | zero => omega
  | succ n ih =>
    by_cases h : t = n
    · subst h
      rw [mem_yes (by rw [ins_test]; simp), mem_no hm, mem_or_ge (Nat.le_refl _)]
      simp
    · have := ih (by omega)
      have hb : (ins m t).testBit n = m.testBit n := by
        rw [ins_test]
        simp [h]
      cases hn : m.testBit n with
      | false => rw [mem_no (by rw [hb, hn]), mem_no hn, this]
      | true => rw [mem_yes (by rw [hb, hn]), mem_yes hn, List.length_append, List.length_append, this]; rfl
theorem ins_lt {n m t : Nat} (hm : m < 2 ^ n) (ht : t < n) : ins m t < 2 ^ n := Nat.or_lt_two_pow hm (Nat.pow_lt_pow_right (by omega) ht)
theorem foldl_inv {α β : Type} {P : α → Prop} {f : α → β → α} (h : ∀ m x, P m → P (f m x)) : ∀ (l : List β) (m : α), P m → P (l.foldl f m)
  | [], _, hm => hm
  | x :: l, m, hm => foldl_inv h l (f m x) (h m x hm)
theorem foldl_take {α β : Type} {f : α → β → α} {xs : List β} {i : Nat} {x : β} (h : xs[i]? = some x) (z : α) : (xs.take (i + 1)).foldl f z = f ((xs.take i).foldl f z) x := by
  rw [take_snoc h, List.foldl_append]; rfl
def mv (a : Au) (s l : Nat) : Int := (a.next.getD s []).getD l (-1)
theorem mv_of {a : Au} {s l : Nat} {row : List Int} {t : Int} (hr : a.next[s]? = some row) (ht : row[l]? = some t) : mv a s l = t := by
  simp [mv, List.getD, hr, ht]
theorem mv_lt {a : Au} (h : auOk a = true) (s l : Nat) : -1 ≤ mv a s l ∧ mv a s l ≤ (a.accept.length : Int) - 1 := by
  obtain ⟨⟨h1, _⟩, _, _, hr⟩ := auOk_iff.1 h
  unfold mv
  cases hs : a.next[s]? with
  | none => simp [List.getD, hs]; omega
  | some row =>
    obtain ⟨hrow, _⟩ := rowOk_iff.1 (hr row (List.mem_of_getElem? hs))
    cases ht : row[l]? with
    | none => simp [List.getD, hs, ht]; omega
    | some t =>
      simp only [List.getD, hs, ht, Option.getD_some]
      exact hrow t (List.mem_of_getElem? ht)
/-- what the loop 'while s is a state that is not in the set' gathers -/
def clsF (a : Au) (l : Nat) : Nat → Int → Nat → Nat
  | 0, _, m => m
  | f + 1, s, m => if 0 ≤ s ∧ m.testBit s.toNat = false then clsF a l f (mv a s.toNat l) (ins m s.toNat) else m
def cls (a : Au) (v s : Nat) : Nat := clsF a (6 + v) 13 s 0
theorem clsF_lt {a : Au} (h : auOk a = true) (l : Nat) : ∀ (f : Nat) (s : Int) (m : Nat), s < (a.accept.length : Int) → m < 2 ^ a.accept.length → clsF a l f s m < 2 ^ a.accept.length := by
  intro f
  induction f with
  | zero => intro s m _ hm; exact hm
  | succ f ih =>
    intro s m hs hm
    rw [clsF]
    split
    · rename_i hc
      exact ih _ _ (by have := (mv_lt h s.toNat l).2; omega) (ins_lt hm (by omega))
    · exact hm
theorem cls_lt {a : Au} (h : auOk a = true) (v s : Nat) (hs : s < a.accept.length) : cls a v s < 2 ^ a.accept.length := clsF_lt h _ _ _ _ (by omega) (Nat.two_pow_pos _)
theorem clsF_stop {a : Au} {l : Nat} {f : Nat} {s : Int} {m : Nat} (h : s < 0 ∨ m.testBit s.toNat = true) : clsF a l f s m = m := by
  cases f with
  | zero => rfl
  | succ f =>
    rw [clsF, if_neg]
    rintro ⟨h1, h2⟩
    rcases h with h | h
    · omega
    · rw [h] at h2; cases h2
theorem clsF_go {a : Au} {l : Nat} {f s : Nat} {m : Nat} (h : m.testBit s = false) : clsF a l (f + 1) s m = clsF a l f (mv a s l) (ins m s) := by
  rw [clsF, if_pos ⟨by omega, by simpa using h⟩]
  simp
def aft1 (a : Au) (l : Nat) (m t : Nat) : Nat := if 0 ≤ mv a t l then ins m (mv a t l).toNat else m
def aftS (a : Au) (v l : Nat) (m s : Nat) : Nat := (mem 12 (cls a v s)).foldl (aft1 a l) m
def aft (a : Au) (set v l : Nat) : Nat := (mem 12 set).foldl (aftS a v l) 0
theorem aft1_lt {a : Au} (h : auOk a = true) (l m t : Nat) (hm : m < 2 ^ a.accept.length) : aft1 a l m t < 2 ^ a.accept.length := by
  unfold aft1
  split
  · have := (mv_lt h t l).2
    exact ins_lt hm (by omega)
  · exact hm
theorem aftS_lt {a : Au} (h : auOk a = true) (v l m s : Nat) (hm : m < 2 ^ a.accept.length) : aftS a v l m s < 2 ^ a.accept.length :=
  foldl_inv (P := fun m => m < 2 ^ a.accept.length) (fun m x hm => aft1_lt h l m x hm) _ _ hm
theorem aft_lt {a : Au} (h : auOk a = true) (set v l : Nat) : aft a set v l < 2 ^ a.accept.length :=
  foldl_inv (P := fun m => m < 2 ^ a.accept.length) (fun m x hm => aftS_lt h v l m x hm) _ _ (Nat.two_pow_pos _)
theorem lt12 {a : Au} (h : auOk a = true) {m : Nat} (hm : m < 2 ^ a.accept.length) : m < 4096 := by
  have h1 : a.accept.length ≤ 12 := (auOk_iff.1 h).1.2
  exact Nat.lt_of_lt_of_le hm (Nat.pow_le_pow_right (by omega) h1 : 2 ^ a.accept.length ≤ 2 ^ 12)
theorem mem12 {a : Au} (h : auOk a = true) {m : Nat} (hm : m < 2 ^ a.accept.length) : mem 12 m = mem a.accept.length m := mem_stop hm (auOk_iff.1 h).1.2
theorem aft_one {a : Au} (v l : Nat) {s : Nat} (hs : s < 12) : aft a (bit s) v l = (mem 12 (cls a v s)).foldl (aft1 a l) 0 := by
  rw [aft, mem_pow hs]; rfl
def accC (a : Au) (v s : Nat) : Bool := (mem 12 (cls a v s)).any fun t => a.accept.getD t false
def acc (a : Au) (set v : Nat) : Bool := (mem 12 set).any (accC a v)
theorem acc_one (a : Au) (v : Nat) {s : Nat} (hs : s < 12) : acc a (bit s) v = accC a v s := by rw [acc, mem_pow hs]; simp
abbrev Arc := St × Int × Int
def arcE (x : Int) (e : Ed) : List Arc := (if e.2.1 = x then [((e.1, false), 2 * e.2.2.2, e.2.2.1)] else []) ++ (if e.2.2.1 = x then [((e.1, true), 2 * e.2.2.2 + 1, e.2.1)] else [])
def arcsOf (g : Gr) (x : Int) : List Arc := g.edges.flatMap (arcE x)
theorem flat_take {α β : Type} {f : α → List β} {xs : List α} {i : Nat} {x : α} (h : xs[i]? = some x) : (xs.take (i + 1)).flatMap f = (xs.take i).flatMap f ++ f x := by
  rw [take_snoc h, List.flatMap_append]; simp
theorem mem_arcE {x : Int} {e : Ed} {y : Arc} : y ∈ arcE x e ↔ (e.2.1 = x ∧ y = ((e.1, false), 2 * e.2.2.2, e.2.2.1)) ∨ (e.2.2.1 = x ∧ y = ((e.1, true), 2 * e.2.2.2 + 1, e.2.1)) := by
  unfold arcE
  rw [List.mem_append]
  by_cases h1 : e.2.1 = x <;> by_cases h2 : e.2.2.1 = x <;> simp [h1, h2]
theorem ids_lt {g : Gr} (hg : GrOk g) : ∀ (k i : Nat) (p e : Ed), g.edges[i]? = some p → g.edges[i + 1 + k]? = some e → p.1 < e.1 := by
  intro k
  induction k with
  | zero => intro i p e hp he; exact hg.asc i p e hp he
  | succ k ih =>
    intro i p e hp he
    have hlt := (List.getElem?_eq_some_iff.1 he).1
    have hq : g.edges[i + 1 + k]? = some g.edges[i + 1 + k] := List.getElem?_eq_getElem (by omega)
    exact Int.lt_trans (ih i p _ hp hq) (hg.asc _ _ _ hq he)
theorem edgeIdx_at {g : Gr} (hg : GrOk g) {i : Nat} {e : Ed} (he : g.edges[i]? = some e) : edgeIdx g e.1 = i := by
  refine edgeIdx_some he rfl fun y hy hye => ?_
  obtain ⟨j, hj, hjy⟩ := List.getElem_of_mem hy
  rw [List.length_take] at hj
  rw [List.getElem_take] at hjy
  have hj' : g.edges[j]? = some y := by rw [← hjy]; exact List.getElem?_eq_getElem (by omega)
  have := ids_lt hg (i - j - 1) j y e hj' (by rw [show j + 1 + (i - j - 1) = i by omega]; exact he)
  omega
def arcLetter (b : Bool) (e : Ed) : Int := if b then 2 * e.2.2.2 + 1 else 2 * e.2.2.2
def arcTo (b : Bool) (e : Ed) : Int := if b then e.2.1 else e.2.2.1
theorem arc_edge {g : Gr} (hg : GrOk g) {x : Int} {y : Arc} (hy : y ∈ arcsOf g x) :
    ∃ (i : Nat) (e : Ed), edgeIdx g y.1.1 = i ∧ g.edges[i]? = some e ∧ y.2.1 = arcLetter y.1.2 e ∧ y.2.2 = arcTo y.1.2 e ∧ e.1 = y.1.1 ∧ e ∈ g.edges := by
  obtain ⟨e, he, hye⟩ := List.mem_flatMap.1 hy
  obtain ⟨i, hi, hie⟩ := List.getElem_of_mem he
  have hi' : g.edges[i]? = some e := by rw [← hie]; exact List.getElem?_eq_getElem hi
  have hx := edgeIdx_at hg hi'
  rcases mem_arcE.1 hye with ⟨_, rfl⟩ | ⟨_, rfl⟩
  · exact ⟨i, e, hx, hi', rfl, rfl, rfl, he⟩
  · exact ⟨i, e, hx, hi', rfl, rfl, rfl, he⟩
theorem arc_range {g : Gr} (hg : GrOk g) {x : Int} {y : Arc} (hy : y ∈ arcsOf g x) : (0 ≤ y.2.1 ∧ y.2.1 ≤ 5) ∧ 0 ≤ y.2.2 ∧ y.2.2 ≤ (g.vals.length : Int) - 1 := by
  obtain ⟨i, e, _, _, h1, h2, _, he⟩ := arc_edge hg hy
  obtain ⟨_, h3, h4, h5⟩ := hg.edges e he
  rw [h1, h2]
  unfold arcLetter arcTo
  split <;> omega
theorem arcE_len (x : Int) (e : Ed) : (arcE x e).length ≤ 2 := by
  unfold arcE
  rw [List.length_append]
  split <;> split <;> simp
theorem flat_len {α β : Type} {f : α → List β} {k : Nat} (h : ∀ x, (f x).length ≤ k) : ∀ xs : List α, (xs.flatMap f).length ≤ xs.length * k
  | [] => by simp
  | x :: xs => by
    have := flat_len h xs
    rw [List.flatMap_cons, List.length_append, List.length_cons, Nat.succ_mul]
    have := h x
    omega
theorem arcs_len {g : Gr} (hg : GrOk g) (x : Int) : (arcsOf g x).length ≤ 24 := by
  have := flat_len (arcE_len x) g.edges
  have := hg.e12
  unfold arcsOf
  omega
def valAt (g : Gr) (x : Nat) : Nat := (g.vals.getD x 0).toNat
theorem valAt_of {g : Gr} {x : Nat} {v : Int} (h : g.vals[x]? = some v) : valAt g x = v.toNat := by simp [valAt, List.getD, h]
/-- the vertices behind vertex (x, s) by one arc -/
def nextA (g : Gr) (a : Au) (x s : Nat) (y : Arc) : List Nat := (mem 12 (aft a (bit s) (valAt g x) y.2.1.toNat)).map fun t => y.2.2.toNat * a.accept.length + t
def nextV (g : Gr) (a : Au) (x s : Nat) : List Nat := (arcsOf g (x : Int)).flatMap (nextA g a x s)
def nextI (g : Gr) (a : Au) (i : Nat) : List Nat := nextV g a (i / a.accept.length) (i % a.accept.length)
theorem nextV_lt {g : Gr} {a : Au} (hg : GrOk g) (ha : auOk a = true) {x s k : Nat} (h : k ∈ nextV g a x s) : k < g.vals.length * a.accept.length := by
  obtain ⟨y, hy, hk⟩ := List.mem_flatMap.1 h
  obtain ⟨t, ht, rfl⟩ := List.mem_map.1 hk
  have h1 := (arc_range hg hy).2
  have h2 := aft_lt ha (bit s) (valAt g x) y.2.1.toNat
  rw [mem12 ha h2, mem_mem] at ht
  have h3 : y.2.2.toNat + 1 ≤ g.vals.length := by omega
  have h4 := Nat.mul_le_mul_right a.accept.length h3
  rw [Nat.succ_mul] at h4
  omega
def relax (d : Int) : List Nat → List Int → List Nat → List Int × List Nat
  | [], D, q => (D, q)
  | k :: l, D, q => if D.getD k 0 < 0 then relax d l (D.set k d) (q ++ [k]) else relax d l D q
def bfs (next : Nat → List Nat) : Nat → List Int → List Nat → List Int
  | 0, D, _ => D
  | _ + 1, D, [] => D
  | f + 1, D, h :: q => bfs next f (relax (D.getD h 0 + 1) (next h) D q).1 (relax (D.getD h 0 + 1) (next h) D q).2
def negs (D : List Int) : Nat := D.countP (fun x => decide (x < 0))
theorem negs_set {D : List Int} {k : Nat} {d : Int} (hk : k < D.length) (hn : D.getD k 0 < 0) (hd : 0 ≤ d) : negs (D.set k d) + 1 = negs D := by
  induction D generalizing k with
  | nil => simp at hk
  | cons x D ih =>
    cases k with
    | zero =>
      simp only [List.getD_cons_zero] at hn
      have : ¬ d < 0 := by omega
      simp [negs, List.countP_cons, hn, this]
    | succ k =>
      have := ih (k := k) (by simpa using hk) (by simpa using hn)
      simp only [negs, List.set_cons_succ, List.countP_cons] at this ⊢
      omega
/-- what holds of distances D and a queue q, with f rounds left of F -/
structure BfsI (N F f : Nat) (D : List Int) (q : List Nat) : Prop where
  len : D.length = N
  queue : ∀ h ∈ q, h < N ∧ 0 ≤ D.getD h 0
  fuel : q.length + negs D ≤ f
  top : ∀ h, D.getD h 0 + (f : Int) ≤ F
  low : ∀ h, -1 ≤ D.getD h 0
  fF : f ≤ F
theorem getD_set' {D : List Int} {k h : Nat} {d : Int} (hk : k < D.length) : (D.set k d).getD h 0 = if h = k then d else D.getD h 0 := by
  simp only [List.getD, List.getElem?_set]
  by_cases hh : h = k
  · subst hh; simp [hk]
  · simp [hh, Ne.symm hh]
theorem BfsI.new {N F f : Nat} {D : List Int} {q : List Nat} {k : Nat} {d : Int} (h : BfsI N F f D q) (hk : k < N) (hn : D.getD k 0 < 0) (hd : 0 ≤ d) (hdF : d + (f : Int) ≤ F) : BfsI N F f (D.set k d) (q ++ [k]) := by
  have hkl : k < D.length := by rw [h.len]; exact hk
  refine ⟨by rw [List.length_set]; exact h.len, fun x hx => ?_, ?_, fun x => ?_, fun x => ?_, h.fF⟩
  · rw [getD_set' hkl]
    rcases List.mem_append.1 hx with hx | hx
    · have := h.queue x hx
      split
      · exact ⟨this.1, hd⟩
      · exact this
    · have : x = k := by simpa using hx
      subst this
      simp [hk, hd]
  · have := negs_set hkl hn hd
    have := h.fuel
    rw [List.length_append, List.length_singleton]
    omega
  · rw [getD_set' hkl]
    have := h.top x
    split <;> omega
  · rw [getD_set' hkl]
    have := h.low x
    split <;> omega
theorem BfsI.pop {N F f : Nat} {D : List Int} {q : List Nat} {k : Nat} (h : BfsI N F (f + 1) D (k :: q)) : BfsI N F f D q :=
  ⟨h.len, fun x hx => h.queue x (List.mem_cons_of_mem _ hx), by have := h.fuel; rw [List.length_cons] at this; omega, fun x => by have := h.top x; omega, h.low, by have := h.fF; omega⟩
theorem bfs_nil (next : Nat → List Nat) (f : Nat) (D : List Int) : bfs next f D [] = D := by cases f <;> rfl
theorem bfs_len (next : Nat → List Nat) : ∀ (f : Nat) (D : List Int) (q : List Nat), (bfs next f D q).length = D.length := by
  have hr : ∀ (d : Int) (l : List Nat) (D : List Int) (q : List Nat), (relax d l D q).1.length = D.length := by
    intro d l
    induction l with
    | nil => intro D q; rfl
    | cons k l ih =>
      intro D q
      rw [relax]
      split
      · rw [ih, List.length_set]
      · exact ih _ _
  intro f
  induction f with
  | zero => intro D q; rfl
  | succ f ih =>
    intro D q
    cases q with
    | nil => rfl
    | cons h q => rw [bfs, ih, hr]
end Go.Proofs.YtallglnmeeahiaaGreat
namespace Go.Proofs.YtallglnmeeahiaaGreat
set_option linter.unusedVariables false
set_option linter.unusedSimpArgs false
open Go.ChangeShapes Go.WideShapes Go.ChangeAt Go.RowKit
theorem bcell {w w' : World} (hb : Below w.heap.size w w') {b o : Nat} {v : Value} (h : w.cell? ⟨b, o, none⟩ = some v) (hl : b < w.heap.size) : w'.cell? ⟨b, o, none⟩ = some v := (hb.cell (p := ⟨b, o, none⟩) hl).trans h
/-- slice value v, of n elements, at A with capacity c; element i (k cells E x) lies in a block below H -/
structure SlC {α : Type} (H : Nat) (w : World) (E : α → List Value) (k : Nat) (A : Option Addr) (xs : List α) : Prop where
  at_ : ∀ i x, xs[i]? = some x → ∃ b o, A = some ⟨b, o, none⟩ ∧ b < H ∧ ∀ j u, (E x)[j]? = some u → w.cell? ⟨b, o + i * k + j, none⟩ = some u
theorem SlE.form {α : Type} {w : World} {E : α → List Value} {k : Nat} {v : Value} {xs : List α} (h : SlE w E k v xs) :
    ∃ A c, v = .slice A xs.length c ∧ xs.length ≤ c ∧ c ≤ 9223372036854775807 ∧ SlC w.heap.size w E k A xs := by
  obtain ⟨A, c, rfl, h1, h2, h3⟩ := h
  exact ⟨A, c, rfl, h1, by simpa [maxLen] using h2, ⟨fun i x hx => by obtain ⟨b, o, e, _, g, h⟩ := h3 i x hx; exact ⟨b, o, e, g, h⟩⟩⟩
theorem SlC.keep {α : Type} {w w' : World} {E : α → List Value} {k : Nat} {A : Option Addr} {xs : List α} (h : SlC w.heap.size w E k A xs) (hb : Below w.heap.size w w') : SlC w'.heap.size w' E k A xs :=
  ⟨fun i x hx => by obtain ⟨b, o, e, g, h⟩ := h.at_ i x hx; exact ⟨b, o, e, Nat.lt_of_lt_of_le g hb.size, fun j u hu => (hb.cell (p := ⟨_, _, none⟩) g).trans (h j u hu)⟩⟩
/-- an int, a bool: one cell -/
theorem SlC.int {H : Nat} {w : World} {A : Option Addr} {xs : List Int} (h : SlC H w cI 1 A xs) {i : Nat} {x : Int} (hx : xs[i]? = some x) : ∃ b o, A = some ⟨b, o, none⟩ ∧ b < H ∧ w.cell? ⟨b, o + i, none⟩ = some (.int .i64 x) := by
  obtain ⟨b, o, e, g, h⟩ := h.at_ i x hx
  exact ⟨b, o, e, g, by simpa using h 0 _ rfl⟩
theorem SlC.bool {H : Nat} {w : World} {A : Option Addr} {xs : List Bool} (h : SlC H w cB 1 A xs) {i : Nat} {x : Bool} (hx : xs[i]? = some x) : ∃ b o, A = some ⟨b, o, none⟩ ∧ b < H ∧ w.cell? ⟨b, o + i, none⟩ = some (.bool x) := by
  obtain ⟨b, o, e, g, h⟩ := h.at_ i x hx
  exact ⟨b, o, e, g, by simpa using h 0 _ rfl⟩
theorem SlC.val {H : Nat} {w : World} {A : Option Addr} {xs : List Value} (h : SlC H w cV 1 A xs) {i : Nat} {x : Value} (hx : xs[i]? = some x) : ∃ b o, A = some ⟨b, o, none⟩ ∧ b < H ∧ w.cell? ⟨b, o + i, none⟩ = some x := by
  obtain ⟨b, o, e, g, h⟩ := h.at_ i x hx
  exact ⟨b, o, e, g, by simpa using h 0 _ rfl⟩
theorem SlC.ed {H : Nat} {w : World} {A : Option Addr} {xs : List Ed} (h : SlC H w cEd 4 A xs) {i : Nat} {e : Ed} (hx : xs[i]? = some e) :
    ∃ b o, A = some ⟨b, o, none⟩ ∧ b < H ∧ w.cell? ⟨b, o + i * 4, none⟩ = some (.int .i64 e.1) ∧ w.cell? ⟨b, o + i * 4 + 1, none⟩ = some (.int .i64 e.2.1) ∧ w.cell? ⟨b, o + i * 4 + 2, none⟩ = some (.int .i64 e.2.2.1) ∧ w.cell? ⟨b, o + i * 4 + 3, none⟩ = some (.int .i64 e.2.2.2) := by
  obtain ⟨b, o, e, g, h⟩ := h.at_ i e hx
  exact ⟨b, o, e, g, by simpa using h 0 _ rfl, h 1 _ rfl, h 2 _ rfl, h 3 _ rfl⟩
theorem SlC.st {H : Nat} {w : World} {A : Option Addr} {xs : List St} (h : SlC H w cSt 2 A xs) {i : Nat} {e : St} (hx : xs[i]? = some e) :
    ∃ b o, A = some ⟨b, o, none⟩ ∧ b < H ∧ w.cell? ⟨b, o + i * 2, none⟩ = some (.int .i64 e.1) ∧ w.cell? ⟨b, o + i * 2 + 1, none⟩ = some (.bool e.2) := by
  obtain ⟨b, o, e, g, h⟩ := h.at_ i e hx
  exact ⟨b, o, e, g, by simpa using h 0 _ rfl, h 1 _ rfl⟩
/-- a valid automaton: the rows lie at A2, each of nine cells -/
structure AuC (w : World) (A1 A2 : Option Addr) (a : Au) : Prop where
  acc : SlC w.heap.size w cB 1 A1 a.accept
  row : ∀ i, i < a.accept.length → ∃ b o b3 o3 c3, A2 = some ⟨b, o, none⟩ ∧ b < w.heap.size ∧ w.cell? ⟨b, o + i, none⟩ = some (.slice (some ⟨b3, o3, none⟩) 9 c3) ∧ 9 ≤ c3 ∧ c3 ≤ 9223372036854775807 ∧ b3 < w.heap.size ∧ ∀ l, l < 9 → w.cell? ⟨b3, o3 + l, none⟩ = some (.int .i64 (mv a i l))
theorem AuV.form {w : World} {v : Value} {a : Au} (h : AuV 0 w.heap.size w v a) (hok : auOk a = true) :
    ∃ A1 c1 A2 c2, v = .agg #[.int .i64 a.start, .slice A1 a.accept.length c1, .slice A2 a.accept.length c2] ∧ a.accept.length ≤ c1 ∧ c1 ≤ 9223372036854775807 ∧ a.accept.length ≤ c2 ∧ c2 ≤ 9223372036854775807 ∧ AuC w A1 A2 a := by
  obtain ⟨⟨-, -⟩, -, hnl, hrk⟩ := auOk_iff.1 hok
  obtain ⟨ac, nx, rfl, h1, us, h2, hul, hrows⟩ := h
  obtain ⟨A1, c1, rfl, h3, h4, h5⟩ := SlE.form h1
  obtain ⟨A2, c2, rfl, h6, h7, h8⟩ := SlE.form h2
  rw [hul, hnl] at h6 ⊢
  refine ⟨A1, c1, A2, c2, rfl, h3, h4, h6, h7, h5, fun i hi => ?_⟩
  have hin : i < a.next.length := by omega
  have hiu : i < us.length := by omega
  have hxi : a.next[i]? = some a.next[i] := List.getElem?_eq_getElem hin
  obtain ⟨b, o, rfl, hb, hc⟩ := h8.val (List.getElem?_eq_getElem hiu)
  have hrl := (rowOk_iff.1 (hrk _ (List.getElem_mem hin))).2
  obtain ⟨A3, c3, hv3, h9, h10, h11⟩ := SlE.form (hrows i us[i] _ (List.getElem?_eq_getElem hiu) hxi)
  rw [hrl] at hv3 h9
  obtain ⟨b3, o3, rfl, hb3, -⟩ := h11.int (i := 0) (List.getElem?_eq_getElem (by omega))
  refine ⟨b, o, b3, o3, c3, rfl, hb, by rw [hc, hv3], h9, h10, hb3, fun l hl => ?_⟩
  have hti : a.next[i][l]? = some a.next[i][l] := List.getElem?_eq_getElem (by omega)
  obtain ⟨b4, o4, he, hb4, hc4⟩ := h11.int hti
  simp only [Option.some.injEq, Addr.mk.injEq, and_true] at he
  obtain ⟨rfl, rfl⟩ := he
  rw [hc4, mv_of hxi hti]
theorem AuC.keep {w w' : World} {A1 A2 : Option Addr} {a : Au} (h : AuC w A1 A2 a) (hb : Below w.heap.size w w') : AuC w' A1 A2 a := by
  refine ⟨h.acc.keep hb, fun i hi => ?_⟩
  obtain ⟨b, o, b3, o3, c3, e, h1, h2, h3, h4, h5, h6⟩ := h.row i hi
  exact ⟨b, o, b3, o3, c3, e, Nat.lt_of_lt_of_le h1 hb.size, (hb.cell (p := ⟨_, _, none⟩) h1).trans h2, h3, h4, Nat.lt_of_lt_of_le h5 hb.size, fun l hl => (hb.cell (p := ⟨_, _, none⟩) h5).trans (h6 l hl)⟩
/-- a graph: values at A1, edges at A2 -/
theorem GrV.form {w : World} {v : Value} {g : Gr} (h : GrV 0 w.heap.size w v g) :
    ∃ A1 c1 A2 c2, v = .agg #[.slice A1 g.vals.length c1, .slice A2 g.edges.length c2] ∧ g.vals.length ≤ c1 ∧ c1 ≤ 9223372036854775807 ∧ g.edges.length ≤ c2 ∧ c2 ≤ 9223372036854775807 ∧ SlC w.heap.size w cI 1 A1 g.vals ∧ SlC w.heap.size w cEd 4 A2 g.edges := by
  obtain ⟨vs, es, rfl, h1, h2⟩ := h
  obtain ⟨A1, c1, rfl, h3, h4, h5⟩ := SlE.form h1
  obtain ⟨A2, c2, rfl, h6, h7, h8⟩ := SlE.form h2
  exact ⟨A1, c1, A2, c2, rfl, h3, h4, h6, h7, h5, h8⟩
theorem WkV.form {w : World} {v : Value} {k : Wk} (h : WkV 0 w.heap.size w v k) :
    ∃ A1 c1, v = .agg #[.int .i64 k.1, .slice A1 k.2.length c1] ∧ k.2.length ≤ c1 ∧ c1 ≤ 9223372036854775807 ∧ SlC w.heap.size w cSt 2 A1 k.2 := by
  obtain ⟨ss, rfl, h1⟩ := h
  obtain ⟨A1, c1, rfl, h3, h4, h5⟩ := SlE.form h1
  exact ⟨A1, c1, rfl, h3, h4, h5⟩
end Go.Proofs.YtallglnmeeahiaaGreat
namespace Go.Proofs.YtallglnmeeahiaaGreat
set_option linter.unusedVariables false
set_option linter.unusedSimpArgs false
open Go.ChangeShapes Go.WideShapes Go.ChangeAt Go.RowKit
theorem wrap_small {n : Int} (h0 : 0 ≤ n) (h1 : n < 9223372036854775808) : IntKind.i64.wrap n = n := by rw [IntKind.wrap_i64]; omega
theorem wrap64_small {n : Int} (h0 : 0 ≤ n) (h1 : n < 9223372036854775808) : wrap64 n = n := IntWalk.wrap64_in n ⟨by omega, by omega⟩
theorem i64_and_nat (a b : Nat) (ha : a < 2 ^ 62) (hb : b < 2 ^ 62) : bits .and .i64 (a : Int) (b : Int) = ((a &&& b : Nat) : Int) :=
  (bits_nat .i64 62 (by decide) (fun n h0 h1 => wrap_small h0 (by omega)) a b ha hb).1
theorem i64_or_nat (a b : Nat) (ha : a < 2 ^ 62) (hb : b < 2 ^ 62) : bits .or .i64 (a : Int) (b : Int) = ((a ||| b : Nat) : Int) :=
  (bits_nat .i64 62 (by decide) (fun n h0 h1 => wrap_small h0 (by omega)) a b ha hb).2
theorem shr_nat (m s : Nat) (_ : s ≤ 64) : (m : Int) / 2 ^ s = ((m / 2 ^ s : Nat) : Int) := by
  simp
/-- 1 << s -/
theorem shl_bit {s : Nat} (hs : s < 62) : wrap64 (2 ^ s) = (bit s : Int) := by
  have h1 : (2 : Int) ^ s = ((2 ^ s : Nat) : Int) := by simp
  have h2 : 2 ^ s < 2 ^ 62 := Nat.pow_lt_pow_right (by omega) hs
  rw [h1]
  show _ = ((2 ^ s : Nat) : Int)
  generalize 2 ^ s = k at h2 ⊢
  exact wrap64_small (by omega) (by omega)
theorem shl_bit2 {s : Nat} (hs : s < 62) : IntKind.i64.wrap (2 ^ s) = (bit s : Int) := by
  have h1 : (2 : Int) ^ s = ((2 ^ s : Nat) : Int) := by simp
  have h2 : 2 ^ s < 2 ^ 62 := Nat.pow_lt_pow_right (by omega) hs
  rw [h1]
  show _ = ((2 ^ s : Nat) : Int)
  generalize 2 ^ s = k at h2 ⊢
  exact IntWalk.i64_in _ (by omega)
theorem shl_bit3 {s : Nat} (hs : s < 62) : IntKind.i64.wrap (2 ^ min s 64) = (bit s : Int) := by rw [Nat.min_eq_left (by omega)]; exact shl_bit2 hs
/-- m | 1 << s -/
theorem or_ins {m s : Nat} (hm : m < 2 ^ 62) (hs : s < 62) : bits .or .i64 (m : Int) (bit s : Int) = (ins m s : Int) :=
  i64_or_nat m (bit s) hm (bit_lt hs)
/-- m >> s & 1 -/
theorem and_bit {m s : Nat} (hm : m < 2 ^ 62) (hs : s ≤ 64) : bits .and .i64 ((m : Int) / 2 ^ s) 1 = if m.testBit s = true then 1 else 0 := by
  have h1 : m / 2 ^ s < 2 ^ 62 := Nat.lt_of_le_of_lt (Nat.div_le_self _ _) hm
  rw [shr_nat m s hs, show (1 : Int) = ((1 : Nat) : Int) by rfl, i64_and_nat _ _ h1 (by decide), nat_mask1, Nat.testBit_eq_decide_div_mod_eq]
  have h2 := Nat.mod_two_eq_zero_or_one (m / 2 ^ s)
  rcases h2 with h2 | h2 <;> simp [h2]
theorem bit_on {m s : Nat} (hm : m < 2 ^ 62) (hs : s ≤ 64) (h : m.testBit s = true) : bits .and .i64 ((m : Int) / 2 ^ s) 1 = 1 := by rw [and_bit hm hs, if_pos h]
theorem bit_off {m s : Nat} (hm : m < 2 ^ 62) (hs : s ≤ 64) (h : m.testBit s = false) : bits .and .i64 ((m : Int) / 2 ^ s) 1 = 0 := by rw [and_bit hm hs, if_neg (by simp [h])]
/-- m >> i != 0 -/
theorem shr_on {m i : Nat} (hi : i ≤ 64) (h : 2 ^ i ≤ m) : ((m : Int) / 2 ^ i != 0) = true := by
  rw [shr_nat m i hi]
  have : 0 < m / 2 ^ i := Nat.div_pos h (Nat.two_pow_pos _)
  simp only [bne_iff_ne, ne_eq]; omega
theorem shr_off {m i : Nat} (hi : i ≤ 64) (h : m < 2 ^ i) : ((m : Int) / 2 ^ i != 0) = false := by
  rw [shr_nat m i hi, Nat.div_eq_of_lt h]; rfl
/-- a natural number as one cell -/
def cN (x : Nat) : List Value := [.int .i64 (x : Int)]
theorem cN_len (x : Nat) : (cN x).length = 1 := rfl
theorem cN_one (x : Nat) : ∀ u ∈ cN x, u.oneCell' = true := by intro u hu; simp only [cN, List.mem_cons, List.not_mem_nil, or_false] at hu; subst hu; rfl
theorem SlC.nat {H : Nat} {w : World} {A : Option Addr} {xs : List Nat} (h : SlC H w cN 1 A xs) {i : Nat} {x : Nat} (hx : xs[i]? = some x) : ∃ b o, A = some ⟨b, o, none⟩ ∧ b < H ∧ w.cell? ⟨b, o + i, none⟩ = some (.int .i64 (x : Int)) := by
  obtain ⟨b, o, e, g, h⟩ := h.at_ i x hx
  exact ⟨b, o, e, g, by simpa using h 0 _ rfl⟩
theorem Own.form {α : Type} {lo : Nat} {w : World} {e : TypeId} {E : α → List Value} {k : Nat} {v : Value} {xs : List α} (h : Own lo w.heap.size w e E k v xs) (hE : ∀ x, (E x).length = k) :
    ∃ A c, v = .slice A xs.length c ∧ xs.length ≤ c ∧ c ≤ 9223372036854775807 ∧ SlC w.heap.size w E k A xs := SlE.form ((h.sl hE).all (Nat.le_refl _))
end Go.Proofs.YtallglnmeeahiaaGreat
namespace Go.Proofs.YtallglnmeeahiaaGreat
set_option linter.unusedVariables false
set_option linter.unusedSimpArgs false
open Go.ChangeShapes Go.WideShapes Go.ChangeAt Go.RowKit
section
variable {α : Type} {w w' : World} {base : Nat} {oT rT e : TypeId} {E : α → List Value} {k : Nat} {g : Nat} {hs : List Value} {xss : List (List α)} {v : Value} {n : Nat} {cs : List Value}
theorem ownsRow_block (h : w.ownsRow base e k v n cs) (hb : ∀ g, v.ownBlock = some g → w'.heap[g]? = w.heap[g]?) : w'.ownsRow base e k v n cs := by
  obtain ⟨hl, h⟩ := h
  refine ⟨hl, ?_⟩
  rcases h with h | ⟨g, cap, cur, rfl, hg, hh, r⟩
  · exact .inl h
  · exact .inr ⟨g, cap, cur, rfl, hg, (hb g rfl).trans hh, r⟩
theorem ownsRow_mono (h : w.ownsRow base e k v n cs) {b : Nat} (hb : b ≤ base) : w.ownsRow b e k v n cs := by
  obtain ⟨hl, h⟩ := h
  refine ⟨hl, ?_⟩
  rcases h with h | ⟨g, cap, cur, rfl, hg, r⟩
  · exact .inl h
  · exact .inr ⟨g, cap, cur, rfl, by omega, r⟩
structure Rws {α : Type} (w : World) (base : Nat) (oT rT : TypeId) (E : α → List Value) (k : Nat) (g : Nat) (hs : List Value) (xss : List (List α)) : Prop where
  own : w.ownsRow g oT 1 (.slice (some ⟨g, 0, none⟩) hs.length hs.length) hs.length hs
  len : hs.length = xss.length
  row : ∀ (i : Nat) (h : Value) (xs : List α), hs[i]? = some h → xss[i]? = some xs → w.ownsRow base rT k h xs.length (xs.flatMap E)
  far : ∀ (i : Nat) (h : Value), hs[i]? = some h → h.ownBlock ≠ some g
  apart : ∀ (i j : Nat) (h h' : Value), i ≠ j → hs[i]? = some h → hs[j]? = some h' → h.ownBlock = none ∨ h.ownBlock ≠ h'.ownBlock
theorem Rws.blocks (h : Rws w base oT rT E k g hs xss) (hb : ∀ b, (b = g ∨ base ≤ b) → b < w.heap.size → w'.heap[b]? = w.heap[b]?) : Rws w' base oT rT E k g hs xss := by
  refine ⟨ownsRow_block h.own fun b hb' => hb b (.inl (by simpa [Value.ownBlock] using hb'.symm)) (h.own.lt b hb').2, h.len, fun i v xs hi hx => ?_, h.far, h.apart⟩
  have := h.row i v xs hi hx
  exact ownsRow_block this fun b hb' => hb b (.inr (this.lt b hb').1) (this.lt b hb').2
theorem Rws.below (h : Rws w base oT rT E k g hs xss) (hb : Below w.heap.size w w') : Rws w' base oT rT E k g hs xss := h.blocks fun b _ hlt => hb.block b hlt
theorem Rws.gLt (h : Rws w base oT rT E k g hs xss) : g ≤ g ∧ g < w.heap.size := h.own.lt g rfl
theorem Rws.cell (h : Rws w base oT rT E k g hs xss) {i : Nat} {v : Value} (hi : hs[i]? = some v) : w.cell? ⟨g, i, none⟩ = some v :=
  (World.ownsRow.cellAt h.own i (by have := (List.getElem?_eq_some_iff.1 hi).1; omega)).trans hi
theorem Rws.frozen (h : Rws w base oT rT E k g hs xss) (i : Nat) : w.frozen? ⟨g, i, none⟩ = false := World.ownsRow.frozenAt h.own i
theorem Rws.made (h : w.ownsRow g oT 1 (.slice (some ⟨g, 0, none⟩) n n) n ((List.replicate n (Value.slice none 0 0)).flatMap cV)) : Rws w base oT rT E k g (List.replicate n (.slice none 0 0)) (List.replicate n ([] : List α)) := by
  have hf : ∀ n, (List.replicate n (Value.slice none 0 0)).flatMap cV = List.replicate n (.slice none 0 0) := by
    intro n
    induction n with
    | zero => rfl
    | succ n ih => rw [List.replicate_succ, List.flatMap_cons, ih]; rfl
  have hv : ∀ {i : Nat} {h : Value}, (List.replicate n (Value.slice none 0 0))[i]? = some h → h = .slice none 0 0 := by
    intro i h hi
    rw [List.getElem?_replicate] at hi
    split at hi
    · injection hi with hi; exact hi.symm
    · cases hi
  rw [hf] at h
  refine ⟨by simpa using h, by simp, fun i h xs hi hx => ?_, fun i h hi => ?_, fun i j h h' _ hi _ => .inl ?_⟩
  · have := hv hi
    subst this
    have hx' : xs = [] := by
      rw [List.getElem?_replicate] at hx
      split at hx
      · injection hx with hx; exact hx.symm
      · cases hx
    subst hx'
    exact World.ownsRow_nil w base rT k
  · have := hv hi
    subst this
    simp [Value.ownBlock]
  · have := hv hi
    subst this
    rfl
/-- row i grows by x: the append law's words, then the store of the new header -/
theorem Rws.push (h : Rws w base oT rT E k g hs xss) {i : Nat} {hv : Value} {xs : List α} {x : α} {v' : Value} {g2 : Nat} (hi : hs[i]? = some hv) (hx : xss[i]? = some xs)
    (hown : w'.ownsRow base rT k v' (xs ++ [x]).length ((xs ++ [x]).flatMap E)) (hg : w.grownBy w' hv.ownBlock) (hv' : v'.ownBlock = some g2) (hat : hv.ownBlock = some g2 ∨ w.heap.size ≤ g2) :
    Rws (w'.setCell ⟨g, i, none⟩ v') base oT rT E k g (hs.set i v') (xss.set i (xs ++ [x])) := by
  have hgl := h.gLt
  have hil := (List.getElem?_eq_some_iff.1 hi).1
  have hfar := h.far i hv hi
  have hg2 : g2 ≠ g := by
    rcases hat with h1 | h1
    · intro e; subst e; exact hfar h1
    · omega
  have hset : ∀ b, b ≠ g → (w'.setCell ⟨g, i, none⟩ v').heap[b]? = w'.heap[b]? := fun b hb => Below.heap_setCell _ _ _ _ hb
  have ho1 : w'.ownsRow g oT 1 (.slice (some ⟨g, 0, none⟩) hs.length hs.length) hs.length hs := h.own.kept hg (.inr (by simpa [Value.ownBlock] using Ne.symm hfar))
  have ho2 := (World.ownsRow.stored ho1 i v').1
  refine ⟨by simpa using ho2, by simp [h.len], fun j u ys hj hy => ?_, fun j u hj => ?_, fun j l u u' hjl hj hl => ?_⟩
  · rw [List.getElem?_set] at hj hy
    by_cases e : i = j
    · subst e
      rw [if_pos rfl] at hj hy
      rw [if_pos hil] at hj
      rw [if_pos (by rw [← h.len]; exact hil)] at hy
      injection hj with hj
      injection hy with hy
      subst hj hy
      exact ownsRow_block hown fun b hb => hset b (by rw [hv'] at hb; injection hb with hb; omega)
    · rw [if_neg e] at hj hy
      have hr := h.row j u ys hj hy
      have hr2 : w'.ownsRow base rT k u ys.length (ys.flatMap E) := hr.kept hg (h.apart j i u hv (Ne.symm e) hj hi)
      exact ownsRow_block hr2 fun b hb => hset b (by intro e2; subst e2; exact h.far j u hj hb)
  · rw [List.getElem?_set] at hj
    by_cases e : i = j
    · subst e
      rw [if_pos rfl, if_pos hil] at hj
      injection hj with hj
      subst hj
      rw [hv']
      simpa using hg2
    · rw [if_neg e] at hj
      exact h.far j u hj
  · have hold : ∀ (j : Nat) (u : Value), j ≠ i → hs[j]? = some u → u.ownBlock = none ∨ u.ownBlock ≠ some g2 := by
      intro j u hji hj
      rcases hat with h1 | h1
      · rcases h.apart j i u hv hji hj hi with h2 | h2
        · exact .inl h2
        · rw [h1] at h2; exact .inr h2
      · cases hu : u.ownBlock with
        | none => exact .inl rfl
        | some b =>
          refine .inr ?_
          have hjl := (List.getElem?_eq_some_iff.1 hj).1
          have hjx : j < xss.length := by rw [← h.len]; exact hjl
          have hr := h.row j u xss[j] hj (List.getElem?_eq_getElem hjx)
          have := (hr.lt b hu).2
          simp only [ne_eq, Option.some.injEq]
          omega
    rw [List.getElem?_set] at hj hl
    by_cases e : i = j
    · subst e
      rw [if_neg hjl] at hl
      rw [if_pos rfl, if_pos hil] at hj
      injection hj with hj
      subst hj
      refine .inr ?_
      rw [hv']
      rcases hold l u' (Ne.symm hjl) hl with h1 | h1
      · rw [h1]; simp
      · exact Ne.symm h1
    · rw [if_neg e] at hj
      by_cases e2 : i = l
      · subst e2
        rw [if_pos rfl, if_pos hil] at hl
        injection hl with hl
        subst hl
        rw [hv']
        exact hold j u (Ne.symm e) hj
      · rw [if_neg e2] at hl
        exact h.apart j l u u' hjl hj hl
/-- a slice of slices of E's that is only read; its blocks lie from lo to hi -/
def SSE {α : Type} (lo hi : Nat) (w : World) (E : α → List Value) (k : Nat) (v : Value) (xss : List (List α)) : Prop :=
  ∃ A c, v = .slice A xss.length c ∧ xss.length ≤ c ∧ c ≤ 9223372036854775807 ∧
    ∀ (i : Nat) (xs : List α), xss[i]? = some xs → ∃ b o u, A = some ⟨b, o, none⟩ ∧ lo ≤ b ∧ b < hi ∧ w.cell? ⟨b, o + i, none⟩ = some u ∧ SlI lo hi w E k u xs
theorem SSE.keep_ {lo hi : Nat} {v : Value} (h : SSE lo hi w E k v xss) (hb : ∀ b o, lo ≤ b → b < hi → w'.cell? ⟨b, o, none⟩ = w.cell? ⟨b, o, none⟩) : SSE lo hi w' E k v xss := by
  obtain ⟨A, c, h1, h2, h3, h4⟩ := h
  refine ⟨A, c, h1, h2, h3, fun i xs hx => ?_⟩
  obtain ⟨b, o, u, g1, g2, g3, g4, g5⟩ := h4 i xs hx
  exact ⟨b, o, u, g1, g2, g3, (hb _ _ g2 g3).trans g4, g5.keep_ hb⟩
theorem SSE.below {lo hi : Nat} {v : Value} (h : SSE lo hi w E k v xss) {B : Nat} (hb : Below B w w') (hB : hi ≤ B) : SSE lo hi w' E k v xss := h.keep_ fun b o _ h2 => hb.cell (p := ⟨b, o, none⟩) (show b < B by omega)
theorem SSE.only {lo hi l r : Nat} {v : Value} (h : SSE lo hi w E k v xss) (hb : Only l r w w') (hh : hi ≤ w.heap.size) (ho : hi ≤ l ∨ r ≤ lo) : SSE lo hi w' E k v xss :=
  h.keep_ fun b o h1 h2 => hb.cell (p := ⟨b, o, none⟩) (show b < _ by omega) (show b < l ∨ r ≤ b by omega)
theorem SSE.mono {lo hi lo' hi' : Nat} {v : Value} (h : SSE lo hi w E k v xss) (h1 : lo' ≤ lo) (h2 : hi ≤ hi') : SSE lo' hi' w E k v xss := by
  obtain ⟨A, c, e1, e2, e3, h4⟩ := h
  refine ⟨A, c, e1, e2, e3, fun i xs hx => ?_⟩
  obtain ⟨b, o, u, g1, g2, g3, g4, g5⟩ := h4 i xs hx
  exact ⟨b, o, u, g1, by omega, by omega, g4, g5.mono h1 h2⟩
theorem SSE.keep {v : Value} (h : SSE 0 w.heap.size w E k v xss) (hb : Below w.heap.size w w') : SSE 0 w'.heap.size w' E k v xss := (h.below hb (Nat.le_refl _)).mono (Nat.le_refl _) hb.size
theorem SSE.shape {lo hi : Nat} {v : Value} (h : SSE lo hi w E k v xss) : ∃ A c, v = .slice A xss.length c ∧ xss.length ≤ c ∧ c ≤ 9223372036854775807 := by
  obtain ⟨A, c, e1, e2, e3, _⟩ := h
  exact ⟨A, c, e1, e2, e3⟩
/-- row i, as a walk wants it -/
theorem SSE.row {lo hi : Nat} {A : Option Addr} {n c : Nat} (h : SSE lo hi w E k (.slice A n c) xss) (hh : hi ≤ w.heap.size) {i : Nat} {xs : List α} (hx : xss[i]? = some xs) :
    ∃ b o A3 c3, A = some ⟨b, o, none⟩ ∧ lo ≤ b ∧ b < hi ∧ w.cell? ⟨b, o + i, none⟩ = some (.slice A3 xs.length c3) ∧ xs.length ≤ c3 ∧ c3 ≤ 9223372036854775807 ∧ SlI lo hi w E k (.slice A3 xs.length c3) xs ∧ SlC w.heap.size w E k A3 xs := by
  obtain ⟨A', c', e1, e2, e3, h4⟩ := h
  obtain ⟨b, o, u, g1, g2, g3, g4, g5⟩ := h4 i xs hx
  injection e1 with e1 _ _
  subst e1
  obtain ⟨A3, c3, rfl, f1, f2, f3⟩ := SlE.form (g5.all hh)
  exact ⟨b, o, A3, c3, g1, g2, g3, g4, f1, f2, g5, f3⟩
end
section
variable {P : Program} {w : World}
/-- append(s, x) at a step of a region that draws its order; the one element lies in block H -/
theorem step_append1 {α : Type} (E : α → List Value) {ops : Array Oper} {o : Oper} {a : Act} {K : Act → World → Prop} {Q : Exit → Act → World → Prop} {EE : Prop} {t e : TypeId} {z : Value} {k bytes : Nat} (el : ElemOk P t e z k bytes)
    (hgd : o.guard = none) (s y : Operand) (ho : o.op = .call { callee := .builtin .append, args := #[s, y], argTypes := #[t, t] })
    (base : Nat) (v : Value) (xs : List α) (x : α) (c H : Nat) (hs : a.eval s = v) (hown : w.ownsRow base e k v xs.length (xs.flatMap E)) (hy : a.eval y = .slice (some ⟨H, 0, none⟩) 1 c)
    (hH : w.heap[H]? = some (.cells (E x).toArray e (0, 0))) (hE : (E x).length = k) (h1 : ∀ u ∈ E x, u.oneCell' = true) (hbytes : (xs.length + 1) * bytes ≤ 140737488355328) (hb0 : 0 < bytes) (hbase : base ≤ w.heap.size)
    (h : ∀ g cap w', w'.ownsRow base e k (.slice (some ⟨g, 0, none⟩) (xs.length + 1) cap) (xs ++ [x]).length ((xs ++ [x]).flatMap E) → w.grownBy w' v.ownBlock → (v.ownBlock = some g ∨ w.heap.size ≤ g) → g < w'.heap.size →
      K (a.put o.dst (.slice (some ⟨g, 0, none⟩) (xs.length + 1) cap)) w') :
    if Region.wanted o (yielded ops a.tmps) = true then Oper.wp P o a w K Q else EE := by
  obtain ⟨i, hi, hz0, hz1, hz2⟩ := info_parts el.info
  have hlen : xs.length + 1 ≤ 140737488355328 := Nat.le_trans (Nat.le_mul_of_pos_right _ hb0) hbytes
  refine step_append_lies w hgd s y t ho base e i z k bytes el.und hi hz0 hz1 hz2 el.zc el.pos v xs.length (xs.flatMap E) hs hown ⟨H, 0, none⟩ 1 c (E x) hy (by rw [hE, Nat.one_mul])
    (by have := World.news_of_block hH; simpa using this) h1 (by omega) (by unfold maxLen; omega) hbytes hbase w.heap.size rfl fun g cap w' h2 h3 h4 h5 => ?_
  refine h g cap w' (by simpa using h2) h3 ?_ h5
  rcases h4 with h4 | h4
  · exact .inl h4
  · exact .inr (by omega)
end
theorem ocell {lo hi : Nat} {w w' : World} (h : Only lo hi w w') {b o : Nat} {v : Value} (hc : w.cell? ⟨b, o, none⟩ = some v) (hb : b < w.heap.size) (ho : b < lo ∨ hi ≤ b) : w'.cell? ⟨b, o, none⟩ = some v := (h.cell (p := ⟨b, o, none⟩) hb ho).trans hc
theorem SlI.nat {lo hi : Nat} {w : World} {A : Option Addr} {n c : Nat} {xs : List Nat} (h : SlI lo hi w cN 1 (.slice A n c) xs) {i : Nat} {x : Nat} (hx : xs[i]? = some x) :
    ∃ b o, A = some ⟨b, o, none⟩ ∧ lo ≤ b ∧ b < hi ∧ w.cell? ⟨b, o + i, none⟩ = some (.int .i64 (x : Int)) := by
  obtain ⟨A', c', hv, _, _, h3⟩ := h
  injection hv with h1 _ _
  subst h1
  obtain ⟨b, o, e, g1, g2, hc⟩ := h3 i x hx
  exact ⟨b, o, e, g1, g2, by simpa using hc 0 _ rfl⟩
theorem flatI_at {xs : List Int} {t : Nat} {x : Int} (h : xs[t]? = some x) : (xs.flatMap cI)[t]? = some (.int .i64 x) := by
  have := flat_at cI_len h 0 _ rfl
  simpa using this
theorem flatI_set (xs : List Int) (t : Nat) (x : Int) : (xs.flatMap cI).set t (.int .i64 x) = (xs.set t x).flatMap cI := by
  induction xs generalizing t with
  | nil => simp
  | cons y xs ih =>
    cases t with
    | zero => rfl
    | succ t =>
      have := ih t
      simp only [List.set_cons_succ, List.flatMap_cons, cI, List.cons_append, List.nil_append] at this ⊢
      rw [this]
theorem getD_of {D : List Int} {k : Nat} (h : k < D.length) : D[k]? = some (D.getD k 0) := by
  simp [List.getD, List.getElem?_eq_getElem h]
end Go.Proofs.YtallglnmeeahiaaGreat
namespace Go.Proofs.YtallglnmeeahiaaGreat
set_option linter.unusedVariables false
set_option linter.unusedSimpArgs false
open Go.ChangeShapes Go.WideShapes Go.ChangeAt Go.RowKit
section
variable {H b o : Nat} {w : World}
end
theorem flatCV (l : List Value) : l.flatMap cV = l := by
  induction l with
  | nil => rfl
  | cons x l ih => rw [List.flatMap_cons, ih]; rfl
/-- the blocks that slices hold -/
abbrev blks (us : List Value) : List Nat := us.filterMap Value.ownBlock
structure NS {α : Type} (lo : Nat) (w : World) (oT eT : TypeId) (E : α → List Value) (k : Nat) (v : Value) (us : List Value) (xss : List (List α)) : Prop where
  own : w.ownsRow lo oT 1 v us.length (us.flatMap cV)
  len : us.length = xss.length
  rows : ∀ (i : Nat) (u : Value) (xs : List α), us[i]? = some u → xss[i]? = some xs → w.ownsRow lo eT k u xs.length (xs.flatMap E)
  dis : (blks (v :: us)).Nodup
section
variable {α : Type} {lo : Nat} {w w' : World} {oT eT : TypeId} {E : α → List Value} {k : Nat} {v : Value} {us : List Value} {xss : List (List α)}
theorem mem_blks {us : List Value} {b : Nat} : b ∈ blks us ↔ ∃ (i : Nat) (u : Value), us[i]? = some u ∧ u.ownBlock = some b := by
  rw [List.mem_filterMap]
  constructor
  · rintro ⟨u, hu, hb⟩
    obtain ⟨i, hi⟩ := List.getElem?_of_mem hu
    exact ⟨i, u, hi, hb⟩
  · rintro ⟨i, u, hu, hb⟩
    exact ⟨u, List.mem_of_getElem? hu, hb⟩
theorem NS.lt (h : NS lo w oT eT E k v us xss) : ∀ b ∈ blks (v :: us), lo ≤ b ∧ b < w.heap.size := by
  intro b hb
  obtain ⟨i, u, hu, hbu⟩ := mem_blks.1 hb
  cases i with
  | zero =>
    simp only [List.getElem?_cons_zero, Option.some.injEq] at hu
    subst hu
    exact h.own.lt b hbu
  | succ i =>
    rw [List.getElem?_cons_succ] at hu
    have hi : i < xss.length := by rw [← h.len]; exact (List.getElem?_eq_some_iff.1 hu).1
    exact (h.rows i u _ hu (List.getElem?_eq_getElem hi)).lt b hbu
theorem NS.blocks (h : NS lo w oT eT E k v us xss) (hb : ∀ b ∈ blks (v :: us), w'.heap[b]? = w.heap[b]?) : NS lo w' oT eT E k v us xss :=
  ⟨ownsRow_block h.own fun g hg => hb g (mem_blks.2 ⟨0, v, rfl, hg⟩), h.len,
    fun i u xs hu hx => ownsRow_block (h.rows i u xs hu hx) fun g hg => hb g (mem_blks.2 ⟨i + 1, u, by simpa using hu, hg⟩), h.dis⟩
theorem NS.below (h : NS lo w oT eT E k v us xss) (hb : Below w.heap.size w w') : NS lo w' oT eT E k v us xss := h.blocks fun b hm => hb.block b (h.lt b hm).2
theorem NS.mono (h : NS lo w oT eT E k v us xss) {lo' : Nat} (hl : lo' ≤ lo) : NS lo' w oT eT E k v us xss :=
  ⟨ownsRow_mono h.own hl, h.len, fun i u xs hu hx => ownsRow_mono (h.rows i u xs hu hx) hl, h.dis⟩
theorem NS.start (h : w.ownsRow lo oT 1 v 0 []) : NS lo w oT eT E k v [] ([] : List (List α)) :=
  ⟨h, rfl, fun i u xs hu _ => by simp at hu, by cases hv : v.ownBlock <;> simp [hv]⟩
theorem NS.push (h : NS lo w oT eT E k v us xss) {u : Value} {xs : List α} (hu : w.ownsRow lo eT k u xs.length (xs.flatMap E)) (hn : ∀ b, u.ownBlock = some b → b ∉ blks (v :: us))
    {v' : Value} (hg : w.grownBy w' v.ownBlock) (hr : w'.ownsRow lo oT 1 v' (us ++ [u]).length ((us ++ [u]).flatMap cV)) (hat : ∀ g, v'.ownBlock = some g → v.ownBlock = some g ∨ w.heap.size ≤ g) :
    NS lo w' oT eT E k v' (us ++ [u]) (xss ++ [xs]) := by
  have hdis := h.dis
  have hkeep : ∀ (u' : Value) (n : Nat) (cs : List Value), w.ownsRow lo eT k u' n cs → (∀ b, u'.ownBlock = some b → v.ownBlock ≠ some b) → w'.ownsRow lo eT k u' n cs := fun u' n cs ho hne => by
    refine ho.kept hg ?_
    cases hb : u'.ownBlock with
    | none => exact .inl rfl
    | some b => exact .inr fun e => hne b hb e.symm
  have hv0 : ∀ b, v.ownBlock = some b → b ∉ blks us := fun b hb => by
    rw [blks, List.filterMap_cons, hb] at hdis
    exact (List.nodup_cons.1 hdis).1
  refine ⟨hr, by simp [h.len], fun i u' xs' hi hx => ?_, ?_⟩
  · rcases Nat.lt_or_ge i us.length with hlt | hge
    · rw [List.getElem?_append_left hlt] at hi
      rw [List.getElem?_append_left (by rw [← h.len]; exact hlt)] at hx
      exact hkeep _ _ _ (h.rows i u' xs' hi hx) fun b hb hvb => hv0 b hvb (mem_blks.2 ⟨i, u', hi, hb⟩)
    · have hi2 := (List.getElem?_eq_some_iff.1 hi).1
      simp only [List.length_append, List.length_singleton] at hi2
      obtain rfl : i = us.length := by omega
      have e1 : u = u' := by simpa using hi
      have e2 : xs = xs' := by rw [h.len] at hx; simpa using hx
      subst e1 e2
      exact hkeep _ _ _ hu fun b hb hvb => hn b hb (mem_blks.2 ⟨0, v, rfl, hvb⟩)
  · have hlt := h.lt
    have hus : (blks us).Nodup := by
      cases hv : v.ownBlock with
      | none => simpa [blks, List.filterMap_cons, hv] using hdis
      | some b => rw [blks, List.filterMap_cons, hv] at hdis; exact (List.nodup_cons.1 hdis).2
    have hnu : ∀ b, u.ownBlock = some b → b ∉ blks us := fun b hb hm => hn b hb (by
      obtain ⟨i, u', h1, h2⟩ := mem_blks.1 hm
      exact mem_blks.2 ⟨i + 1, u', by simpa using h1, h2⟩)
    have hall : (blks (us ++ [u])).Nodup := by
      rw [blks, List.filterMap_append]
      cases hub : u.ownBlock with
      | none => simpa [List.filterMap_cons, hub] using hus
      | some b =>
        rw [List.filterMap_cons, hub]
        refine List.nodup_append.2 ⟨hus, by simp, ?_⟩
        intro x hx y hy e
        simp only [List.filterMap_nil, List.mem_cons, List.not_mem_nil, or_false] at hy
        subst hy
        subst e
        exact hnu _ hub hx
    rw [blks, List.filterMap_cons]
    cases hv' : v'.ownBlock with
    | none => exact hall
    | some g =>
      refine List.nodup_cons.2 ⟨fun hm => ?_, hall⟩
      obtain ⟨i, u', hi, hb⟩ := mem_blks.1 hm
      rcases Nat.lt_or_ge i us.length with hl | hge
      · rw [List.getElem?_append_left hl] at hi
        rcases hat g hv' with h1 | h1
        · exact hv0 g h1 (mem_blks.2 ⟨i, u', hi, hb⟩)
        · have := (hlt g (mem_blks.2 ⟨i + 1, u', by simpa using hi, hb⟩)).2
          omega
      · have hi2 := (List.getElem?_eq_some_iff.1 hi).1
        simp only [List.length_append, List.length_singleton] at hi2
        obtain rfl : i = us.length := by omega
        have e1 : u = u' := by simpa using hi
        subst e1
        rcases hat g hv' with h1 | h1
        · exact hn g hb (mem_blks.2 ⟨0, v, rfl, h1⟩)
        · have := (hu.lt g hb).2
          omega
theorem grown_alloc {o : Obj} {row : Option Nat} (h : (w.alloc o).grownBy w' row) : w.grownBy w' row :=
  ⟨h.os, h.tape, h.output, Nat.le_trans (by simp) h.size, fun n hn hne => (h.block n (by simp; omega) hne).trans (Below.heap_alloc w o n hn)⟩
/-- what is read of it: the header of row i, and the row -/
theorem NS.row (h : NS lo w oT eT E k v us xss) (hE : ∀ x, (E x).length = k) {i : Nat} {xs : List α} (hx : xss[i]? = some xs) :
    ∃ g cap A c, v = .slice (some ⟨g, 0, none⟩) xss.length cap ∧ us[i]? = some (.slice A xs.length c) ∧ g < w.heap.size ∧ w.cell? ⟨g, i, none⟩ = some (.slice A xs.length c) ∧ xs.length ≤ c ∧ c ≤ maxLen ∧ SlI lo w.heap.size w E k (.slice A xs.length c) xs := by
  have hi : i < us.length := by rw [h.len]; exact (List.getElem?_eq_some_iff.1 hx).1
  have hu : us[i]? = some us[i] := List.getElem?_eq_getElem hi
  have hr := h.rows i _ xs hu hx
  generalize us[i] = u at hu hr
  have hsl := (Own.of_row (xs := xs) hr rfl rfl).sl hE
  have hsl' := hsl
  obtain ⟨A, c, rfl, hl, hm, -⟩ := hsl'
  have hown := h.own
  have hlt := h.own.lt
  rw [flatCV] at hown
  have hown2 := hown
  obtain ⟨h1, h2⟩ := hown2
  rcases h2 with ⟨rfl, h3⟩ | ⟨g, cap, cur, rfl, r⟩
  · omega
  · refine ⟨g, cap, A, c, by rw [h.len], hu, (hlt g rfl).2, ?_, hl, hm, hsl⟩
    rw [World.ownsRow.cellAt hown i (by omega)]
    exact hu
theorem NS.at (h : NS lo w oT eT E k v us xss) (hE : ∀ x, (E x).length = k) {g n cap : Nat} (hv : v = .slice (some ⟨g, 0, none⟩) n cap) {i : Nat} {xs : List α} (hx : xss[i]? = some xs) :
    ∃ A c, w.cell? ⟨g, i, none⟩ = some (.slice A xs.length c) ∧ xs.length ≤ c ∧ c ≤ 9223372036854775807 ∧ SlI lo w.heap.size w E k (.slice A xs.length c) xs := by
  obtain ⟨g', cap', A, c, hv', -, -, hc, h1, h2, h3⟩ := h.row hE hx
  rw [hv] at hv'
  injection hv' with e1 _ _
  injection e1 with e1
  injection e1 with e1
  subst e1
  exact ⟨A, c, hc, h1, h2, h3⟩
/-- a row that is not empty has a block of its own -/
theorem own_some {W : World} {base k n : Nat} {e : TypeId} {v : Value} {cs : List Value} (h : W.ownsRow base e k v n cs) (hn : n ≠ 0) : ∃ g c, v = .slice (some ⟨g, 0, none⟩) n c ∧ base ≤ g ∧ g < W.heap.size ∧ n ≤ c ∧ c ≤ 9223372036854775807 := by
  have hlt := h.lt
  obtain ⟨h1, h2⟩ := h
  rcases h2 with ⟨rfl, h3⟩ | ⟨g, cap, cur, rfl, h4, h5, h6, h7, r⟩
  · exact absurd h3 hn
  · exact ⟨g, cap, rfl, h4, (hlt g rfl).2, h6, h7⟩
theorem NS.shape (h : NS lo w oT eT E k v us xss) : ∃ A c, v = .slice A xss.length c ∧ xss.length ≤ c ∧ c ≤ maxLen := by
  obtain ⟨h1, h2⟩ := h.own
  rcases h2 with ⟨rfl, h3⟩ | ⟨g, cap, cur, rfl, h4, h5, h6, h7, r⟩
  · exact ⟨none, 0, by rw [← h.len, h3], by rw [← h.len, h3]; exact Nat.le_refl _, by unfold maxLen; omega⟩
  · exact ⟨_, cap, by rw [h.len], by rw [← h.len]; exact h6, h7⟩
end
end Go.Proofs.YtallglnmeeahiaaGreat
