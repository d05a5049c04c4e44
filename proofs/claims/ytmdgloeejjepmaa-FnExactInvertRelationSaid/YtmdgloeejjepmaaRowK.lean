/- A row of pairs, as the shelf's sort tells it. -/
import Derived.Shelf.SlSortCmp.WholeK
import Derived.Test.YtmdgloeejjepmaaRelM
import Derived.Test.YtmdgloeejjepmaaKeep
import Derived.Test.YtmdgloeejjepmaaRows2
namespace Go.Proofs.Ytmdgloeejjepmaa
set_option linter.unusedVariables false
set_option linter.unusedSimpArgs false
open Go.ChangeShapes Go.WideShapes Go.ChangeAt Go.RowKit Go.Sort

theorem konly_ahead (lo hi : Nat) (w : World) (n : Nat) : Only lo hi w (Sort.ahead w n) := ⟨rfl, rfl, rfl, Nat.le_refl _, fun _ _ _ => rfl⟩
theorem konly_grow (lo hi : Nat) (w : World) (os : Array Obj) : Only lo hi w (grow w os) := ⟨rfl, rfl, rfl, by simp [grow], fun n hn _ => by simp [grow, Array.getElem?_append, hn]⟩
theorem konly_put {α : Type} [Inhabited α] (enc : α → Value) (w : World) (g off : Nat) (d : Array α) : Only g (g + 1) w (putRow enc w g off d) :=
  ⟨rfl, rfl, rfl, by simp [putRow, mapBlock], fun n hn ho => by simp only [putRow, mapBlock, Array.getElem?_modify]; rw [if_neg (by omega)]⟩
theorem row_putF {w : World} {base g n cap k : Nat} {e : TypeId} {cs : List Value} (h : w.ownsRow base e k (.slice (some ⟨g, 0, none⟩) n cap) n cs) {F : Array Value} (hF : F.size = n * k) :
    (putRow id w g 0 F).ownsRow base e k (.slice (some ⟨g, 0, none⟩) n cap) n F.toList := by
  obtain ⟨hl, hs⟩ := h
  refine ⟨by simp [hF], ?_⟩
  rcases hs with ⟨h1, _⟩ | ⟨g', cap', cur, hv, hg, hh, hnc, hcm, hsz, htk⟩
  · cases h1
  · simp only [Value.slice.injEq, Option.some.injEq, Addr.mk.injEq, and_true, true_and] at hv
    obtain ⟨rfl, rfl⟩ := hv
    have hcs : n * k ≤ cur.size := by rw [hsz]; exact Nat.mul_le_mul_right k hnc
    refine .inr ⟨g, cap, putCells id 0 F cur, rfl, hg, ?_, hnc, hcm, by simp [putCells, hsz], ?_⟩
    · simp [putRow, mapBlock, Array.getElem?_modify, hh, onCells]
    · apply List.ext_getElem?
      intro j
      rw [List.getElem?_take]
      by_cases hk : j < n * k
      · rw [if_pos hk]
        have hkc : j < cur.size := by omega
        have hkd : j < F.size := by omega
        simp [putCells, hkc, hkd, getElem!_pos]
      · rw [if_neg hk, List.getElem?_eq_none (by simp; omega)]
theorem flatK_list (ds : List Pr) : (flatK cPr 2 ds.toArray).toList = ds.flatMap cPr := by
  apply List.ext_getElem?
  intro t
  by_cases ht : t < ds.length * 2
  · have hi : t / 2 < ds.length := by omega
    have hx : ds[t / 2]? = some ds[t / 2] := List.getElem?_eq_getElem hi
    have hj : t % 2 < (cPr ds[t / 2]).length := by rw [cPr_len]; omega
    have h1 := flat_at cPr_len hx (t % 2) _ (List.getElem?_eq_getElem hj)
    rw [show t / 2 * 2 + t % 2 = t by omega] at h1
    rw [h1, Array.getElem?_toList, Array.getElem?_eq_getElem (by simpa using ht)]
    congr 1
    have h2 := get_flatK cPr 2 ds.toArray t (by simpa using ht)
    rw [getElem!_pos _ _ (by simpa using ht)] at h2
    rw [h2, getElem!_pos ds.toArray _ (by simpa using hi), getElem!_pos _ _ (by simpa using hj)]
    simp
  · rw [List.getElem?_eq_none (by simp; omega), List.getElem?_eq_none]
    have : (ds.flatMap cPr).length = ds.length * 2 := by
      clear ht
      induction ds with
      | nil => rfl
      | cons d ds ih => rw [List.flatMap_cons, List.length_append, ih, cPr_len, List.length_cons]; omega
    omega
theorem holds_ownK {w : World} {base g n cap : Nat} {e : TypeId} {zs : List Pr} (h : w.ownsRow base e 2 (.slice (some ⟨g, 0, none⟩) n cap) n (zs.flatMap cPr)) (hz : zs.length = n) : HoldsK cPr 2 w g 0 zs.toArray := by
  intro j hj
  have hj' : j < zs.length * 2 := by simpa using hj
  refine ⟨?_, by rw [Nat.zero_add]; exact World.ownsRow.frozenAt h j⟩
  rw [Nat.zero_add, World.ownsRow.cellAt h j (by omega), ← flatK_list, Array.getElem?_toList, Array.getElem?_eq_getElem hj, getElem!_pos _ j hj]
  rfl
end Go.Proofs.Ytmdgloeejjepmaa
