/- Words on memory that all walks of this seat use; nothing of the program. -/
import Derived.Test.YtfenpcpllhpbfaaRows
import Derived.WalkKit
import Derived.ProofKit
import Derived.OpenShut
import Derived.Deep.QuietTactic
import Derived.BigQuiet
import Derived.Lib.Hide
namespace Go.Proofs.Ytfenpcpllhpbfaa
open Go.ChangeShapes Go.WideShapes Go.ChangeAt Go.RowKit

/-! ### 'w.ext u': a world in which all blocks of w are as they were -/
open Classical in
noncomputable def ext (w u : World) : World := if Below w.heap.size w u then u else w

theorem ext_below (w u : World) : Below w.heap.size w (ext w u) := by
  unfold ext
  split
  · assumption
  · exact Below.refl _ _
theorem ext_of {w w' : World} (h : Below w.heap.size w w') : ∃ u, w' = ext w u := ⟨w', (if_pos h).symm⟩
theorem ext_cell {w u : World} {b o : Nat} (h : b < w.heap.size) : (ext w u).cell? ⟨b, o, none⟩ = w.cell? ⟨b, o, none⟩ := (ext_below w u).cell (p := ⟨b, o, none⟩) h
theorem ext_frozen {w u : World} {b o : Nat} (h : b < w.heap.size) : (ext w u).frozen? ⟨b, o, none⟩ = w.frozen? ⟨b, o, none⟩ := (ext_below w u).frozen (p := ⟨b, o, none⟩) h
theorem ext_size (w u : World) : w.heap.size ≤ (ext w u).heap.size := (ext_below w u).size
theorem ext_lt {w u : World} {b : Nat} (h : b < w.heap.size) : (b < (ext w u).heap.size) = True := by
  have := ext_size w u
  simp; omega
theorem ext_lt1 {w u : World} {b : Nat} (h : b < w.heap.size) : (b < (ext w u).heap.size + 1) = True := by
  have := ext_size w u
  simp; omega
theorem ext_lt2 {w u : World} {b : Nat} (h : b < w.heap.size) : (b < (ext w u).heap.size + 1 + 1) = True := by
  have := ext_size w u
  simp; omega
theorem below_trans {a b c : World} (h : Below a.heap.size a b) (k : Below b.heap.size b c) : Below a.heap.size a c := h.trans (k.mono h.size)
theorem ext_ext (w u v : World) : ∃ x, ext (ext w u) v = ext w x := ext_of (below_trans (ext_below w u) (ext_below _ v))

theorem Calls.ext_of {P : Program} {f : FuncId} {args : Array Value} {w u : World} {v : Value}
    (h : Calls P f args (ext w u) fun e w' => e = .returned v ∧ Below (ext w u).heap.size (ext w u) w') : Calls P f args (ext w u) fun e w'' => e = .returned v ∧ ∃ x, w'' = ext w x :=
  h.mono fun _ _ ⟨he, hb⟩ => ⟨he, Go.Proofs.Ytfenpcpllhpbfaa.ext_of (below_trans (ext_below w u) hb)⟩

theorem wp_region_ext_lit {P : Program} {id : Nat} {Q : Exit → Act → World → Prop} {a : Act} {w : World} {l : List Oper} (hm : P.follows .mixedOrders = true) (hB : Region.lexB .any l.toArray = true)
    (h : wpQuiet P l.toArray (fun w' => ∃ u, w' = ext w u) (fun a' => ∀ w', (∃ u, w' = ext w u) → Q .normal a' w') l a) : (Code.region id l.toArray true).wp P Q a w :=
  wp_region_quiet (C := fun w' => ∃ u, w' = ext w u) hm hB (ext_of ⟨rfl, rfl, rfl, Nat.le_refl _, fun _ _ => rfl⟩) (by simpa using h)

/-! ### A slice that reads as a list: each element is k cells, 'E x' -/
def SlE {α : Type} (w : World) (E : α → List Value) (k : Nat) (v : Value) (xs : List α) : Prop :=
  ∃ A c, v = .slice A xs.length c ∧ xs.length ≤ c ∧ c ≤ maxLen ∧
    ∀ i x, xs[i]? = some x → ∃ b o, A = some ⟨b, o, none⟩ ∧ b < w.heap.size ∧ ∀ j u, (E x)[j]? = some u → w.cell? ⟨b, o + i * k + j, none⟩ = some u

theorem SlE.keep {α : Type} {w w' : World} {E : α → List Value} {k : Nat} {v : Value} {xs : List α} (h : SlE w E k v xs) (hb : Below w.heap.size w w') : SlE w' E k v xs := by
  obtain ⟨A, c, hv, hl, hm, hx⟩ := h
  refine ⟨A, c, hv, hl, hm, fun i x hi => ?_⟩
  obtain ⟨b, o, hA, hlt, hc⟩ := hx i x hi
  exact ⟨b, o, hA, Nat.lt_of_lt_of_le hlt hb.size, fun j u hu => (hb.cell (p := ⟨b, o + i * k + j, none⟩) hlt).trans (hc j u hu)⟩
theorem SlE.ext {α : Type} {w : World} {E : α → List Value} {k : Nat} {v : Value} {xs : List α} (h : SlE w E k v xs) (u : World) : SlE (ext w u) E k v xs := h.keep (ext_below w u)

/-- a pair of numbers -/
structure Pr where
  fr : Int
  to : Int
deriving DecidableEq
def Pr.cells (p : Pr) : List Value := [.int .i64 p.fr, .int .i64 p.to]
def Pr.val (p : Pr) : Value := .agg #[.int .i64 p.fr, .int .i64 p.to]

theorem take_eq_snoc {α : Type} {xs ys : List α} {k : Nat} {x y : α} (hx : xs[k]? = some x) (hy : ys[k]? = some y) : (xs.take (k + 1) = ys.take (k + 1)) ↔ (xs.take k = ys.take k ∧ x = y) := by
  rw [List.take_add_one, List.take_add_one, hx, hy]
  have hlx : (xs.take k).length = (ys.take k).length := by
    have h1 := (List.getElem?_eq_some_iff.1 hx).1
    have h2 := (List.getElem?_eq_some_iff.1 hy).1
    simp; omega
  constructor
  · intro h
    have := List.append_inj h hlx
    exact ⟨this.1, by simpa using this.2⟩
  · rintro ⟨h, rfl⟩
    rw [h]

end Go.Proofs.Ytfenpcpllhpbfaa
