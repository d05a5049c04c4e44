/- IdentityRelation, the program's and the reference's: the pairs (0,0) to (n-1,n-1); none if n is above 5 or below 1. -/
import Derived.Test.YtfenpcpllhpbfaaGrow
namespace Go.Proofs.Ytfenpcpllhpbfaa
open Go.ChangeShapes Go.WideShapes Go.ChangeAt Go.RowKit
attribute [local go_sem] ext_cell ext_frozen ext_lt ext_lt1 ext_lt2

theorem elPr : ElemOk Try.prog 23 29 (.agg #[.int .i64 0, .int .i64 0]) 2 16 := ⟨Try.underlying23, by kernel_rfl, rfl, by omega⟩

def idPairs (n : Nat) : List Pr := (List.range n).map fun (i : Nat) => ((i : Int), (i : Int))
theorem idPairs_succ (n : Nat) : idPairs (n + 1) = idPairs n ++ [((n : Int), (n : Int))] := by simp [idPairs, List.range_succ]
theorem idPairs_len (n : Nat) : (idPairs n).length = n := by simp [idPairs]
def identityOf (n : Int) : List Pr := if 5 < n then [] else idPairs n.toNat

set_option maxHeartbeats 400000 in
theorem implIdentity (n : Int) (w : World) :
    Calls Try.prog 8 #[.int .i64 n] w fun en w' => ∃ v, en = .returned v ∧ Own w.heap.size w'.heap.size w' 29 cPr 2 v (identityOf n) ∧ Below w.heap.size w w' := by
  by_cases h5 : 5 < n
  · go_enter Try.func8, Try.ntmps8
    go_wp2
    go_ret
    exact ⟨_, rfl, by rw [identityOf, if_pos h5]; exact Own.nil _ _ _ _ _ _, Below.refl _ _⟩
  · rw [identityOf, if_neg h5]
    go_enter Try.func8, Try.ntmps8
    go_wp2
    go_loopw [3, 4] (fun out ii wr => ∃ i : Nat, i ≤ n.toNat ∧ ii = .int .i64 i ∧ wr.ownsRow w.heap.size 29 2 out (idPairs i).length ((idPairs i).flatMap cPr) ∧ Below w.heap.size w wr) (fun _ ii _ => n.toNat - (intOf ii).toNat)
    case atStart => exact ⟨0, Nat.zero_le _, rfl, World.ownsRow_lit w #[] 0 (Nat.le_refl _) (by decide) rfl, (Below.refl _ _).alloc (Nat.le_refl _) _⟩
    case round =>
      obtain ⟨i, hi, rfl, hrow, hbel⟩ := hrel
      by_cases hlt : (i : Int) < n
      · have hs := hbel.size
        go_wp2_with (at_builtin; (refine wpList_append1 cPr elPr rfl _ _ rfl w.heap.size u3 (idPairs i) ((i : Int), (i : Int)) _ 1 (by rfl) hrow (by rfl) rfl rfl (cPr_one _) (by rw [idPairs_len]; omega) (by omega) hs ?_); rw [← idPairs_succ]; intro v' w1 hrow' hb1 _ _)
        go_roundw
        case rel => exact ⟨i + 1, by omega, by go_num, hrow', hbel.trans hb1⟩
        case measure => simp [intOf]; omega
      · obtain rfl : i = n.toNat := by omega
        go_wp2
        go_ret
        exact ⟨_, rfl, Own.of_row hrow rfl rfl, hbel⟩
set_option maxHeartbeats 400000 in
theorem specIdentity (n : Int) (w : World) :
    Calls Try.prog 7 #[.int .i64 n] w fun en w' => ∃ v, en = .returned v ∧ Own w.heap.size w'.heap.size w' 29 cPr 2 v (identityOf n) ∧ Below w.heap.size w w' := by
  by_cases h5 : 5 < n
  · go_enter Try.func7, Try.ntmps7
    go_wp2
    go_loopw [3, 4] (fun out ii wr => out = .slice (some ⟨w.heap.size, 0, none⟩) 0 0 ∧ ii = .int .i64 0 ∧ wr = w.alloc (.cells #[] 29)) (fun _ _ _ => 0)
    case atStart => exact ⟨rfl, rfl, rfl⟩
    case round =>
      obtain ⟨rfl, rfl, rfl⟩ := hrel
      go_wp2
      all_goals go_ret
      all_goals exact ⟨_, rfl, by rw [identityOf, if_pos h5]; exact Own.of_row (World.ownsRow_lit w #[] 0 (Nat.le_refl _) (by decide) rfl) rfl rfl, (Below.refl _ _).alloc (Nat.le_refl _) _⟩
  · rw [identityOf, if_neg h5]
    go_enter Try.func7, Try.ntmps7
    go_wp2
    go_loopw [3, 4] (fun out ii wr => ∃ i : Nat, i ≤ n.toNat ∧ ii = .int .i64 i ∧ wr.ownsRow w.heap.size 29 2 out (idPairs i).length ((idPairs i).flatMap cPr) ∧ Below w.heap.size w wr) (fun _ ii _ => n.toNat - (intOf ii).toNat)
    case atStart => exact ⟨0, Nat.zero_le _, rfl, World.ownsRow_lit w #[] 0 (Nat.le_refl _) (by decide) rfl, (Below.refl _ _).alloc (Nat.le_refl _) _⟩
    case round =>
      obtain ⟨i, hi, rfl, hrow, hbel⟩ := hrel
      by_cases hlt : (i : Int) < n
      · have hs := hbel.size
        go_wp2_with (at_builtin; refine wpList_append1 cPr elPr rfl _ _ rfl w.heap.size u3 (idPairs i) ((i : Int), (i : Int)) _ 1 (by rfl) hrow (by rfl) rfl rfl (cPr_one _) (by rw [idPairs_len]; omega) (by omega) hs ?_; rw [← idPairs_succ]; intro v' w1 hrow' hb1 _ _)
        go_roundw
        case rel => exact ⟨i + 1, by omega, by go_num, hrow', hbel.trans hb1⟩
        case measure => simp [intOf]; omega
      · obtain rfl : i = n.toNat := by omega
        go_wp2
        go_ret
        exact ⟨_, rfl, Own.of_row hrow rfl rfl, hbel⟩
end Go.Proofs.Ytfenpcpllhpbfaa
