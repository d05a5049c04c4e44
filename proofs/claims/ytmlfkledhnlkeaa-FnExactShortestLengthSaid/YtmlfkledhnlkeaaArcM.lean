/- Plain: the rows of arcs, edge by edge. -/
import Derived.Test.YtmlfkledhnlkeaaProdM
namespace Go.Proofs.Ytmlfkledhnlkeaa
set_option linter.unusedVariables false
set_option linter.unusedSimpArgs false
/-- the arcs of all nodes by the first i edges -/
def rowsTo (g : Gr) (i : Nat) : List (List Arc) := (List.range g.vals.length).map fun (x : Nat) => (g.edges.take i).flatMap (arcE (x : Int))
theorem rowsTo_at {g : Gr} {i x : Nat} (h : x < g.vals.length) : (rowsTo g i)[x]? = some ((g.edges.take i).flatMap (arcE (x : Int))) := by simp [rowsTo, h]
theorem rowsTo_len (g : Gr) (i : Nat) : (rowsTo g i).length = g.vals.length := by simp [rowsTo]
theorem rowsTo_zero (g : Gr) : rowsTo g 0 = List.replicate g.vals.length [] := by
  apply List.ext_getElem?
  intro x
  simp only [rowsTo, List.take_zero, List.flatMap_nil, List.getElem?_map, List.getElem?_replicate, List.getElem?_range]
  by_cases h : x < g.vals.length
  · simp [h]
  · simp [h]
def rowFrom (g : Gr) (i : Nat) (e : Ed) : List (List Arc) := (rowsTo g i).set e.2.1.toNat ((g.edges.take i).flatMap (arcE e.2.1) ++ [((e.1, false), arcLetter false e, e.2.2.1)])
def rowBack (g : Gr) (i : Nat) (e : Ed) : List Arc := (g.edges.take i).flatMap (arcE e.2.2.1) ++ if e.2.1 = e.2.2.1 then [((e.1, false), arcLetter false e, e.2.2.1)] else []
theorem rowFrom_at {g : Gr} {i : Nat} {e : Ed} (h0 : 0 ≤ e.2.1) (hn : e.2.1 ≤ (g.vals.length : Int) - 1) (h1 : 0 ≤ e.2.2.1) (h2 : e.2.2.1 ≤ (g.vals.length : Int) - 1) : (rowFrom g i e)[e.2.2.1.toNat]? = some (rowBack g i e) := by
  unfold rowFrom rowBack
  rw [List.getElem?_set]
  by_cases h : e.2.1 = e.2.2.1
  · rw [if_pos (by rw [h]), if_pos (by rw [rowsTo_len]; omega), if_pos h, h]
  · rw [if_neg (by omega), if_neg h, rowsTo_at (by omega), Int.toNat_of_nonneg h1]; simp
theorem rowsTo_push {g : Gr} {i : Nat} {e : Ed} (he : g.edges[i]? = some e) (h0 : 0 ≤ e.2.1) (hn : e.2.1 ≤ (g.vals.length : Int) - 1) (h1 : 0 ≤ e.2.2.1) (h2 : e.2.2.1 ≤ (g.vals.length : Int) - 1) :
    (rowFrom g i e).set e.2.2.1.toNat (rowBack g i e ++ [((e.1, true), arcLetter true e, e.2.1)]) = rowsTo g (i + 1) := by
  apply List.ext_getElem?
  intro x
  by_cases hx : x < g.vals.length
  · rw [rowsTo_at hx, flat_take he, List.getElem?_set]
    unfold rowFrom rowBack
    rw [List.length_set, rowsTo_len]
    by_cases hb : e.2.2.1 = (x : Int)
    · rw [if_pos (by omega), if_pos (by omega)]
      congr 1
      rw [hb, List.append_assoc]
      congr 1
      unfold arcE arcLetter
      by_cases hf : e.2.1 = (x : Int)
      · simp [hf, hb]
      · simp [hf, hb]
    · rw [if_neg (by omega), List.getElem?_set, rowsTo_len]
      by_cases hf : e.2.1 = (x : Int)
      · rw [if_pos (by omega), if_pos (by omega)]
        congr 1
        rw [hf]
        congr 1
        unfold arcE arcLetter
        simp [hf, hb]
      · rw [if_neg (by omega), rowsTo_at hx]
        congr 1
        unfold arcE
        simp [hf, hb]
  · rw [List.getElem?_eq_none (by rw [List.length_set, rowFrom, List.length_set, rowsTo_len]; omega), List.getElem?_eq_none (by rw [rowsTo_len]; omega)]
theorem rowsTo_all (g : Gr) : rowsTo g g.edges.length = (List.range g.vals.length).map fun (x : Nat) => arcsOf g (x : Int) := by
  unfold rowsTo arcsOf
  rw [List.take_length]

end Go.Proofs.Ytmlfkledhnlkeaa
