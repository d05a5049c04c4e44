/- The program's bothOk: a graph, an automaton and nodes are valid. -/
import Derived.Test.YtmlfkledhnlkeaaSetI
import Derived.Test.YtmlfkledhnlkeaaGraphI
namespace Go.Proofs.Ytmlfkledhnlkeaa
set_option linter.unusedVariables false
set_option linter.unusedSimpArgs false
open Go.ChangeShapes Go.WideShapes Go.ChangeAt Go.RowKit
attribute [local go_sem] ext_cell ext_frozen ext_lt ext_lt1 ext_lt2 ext_lt3 ltn2 ltn3 ltn13 lts1 lts2 lts3

set_option maxHeartbeats 1000000 in
theorem bothOk_any (vg va lv : Value) (g : Gr) (a : Au) (ss : List Int) (w : World) (hg : GrV 0 w.heap.size w vg g) (ha : AuV 0 w.heap.size w va a) (hl : SlE w cI 1 lv ss) :
    Calls Try.prog 71 #[vg, va, lv] w fun e w' => e = .returned (.bool (ss.all (fun s => wi s 0 ((g.vals.length : Int) - 1)) && (grOk g && auOk a))) ∧ Below w.heap.size w w' := by
  have hg0 := hg
  have ha0 := ha
  obtain ⟨A1, c1, A2, c2, rfl, hl1, hm1, -, -, -, -⟩ := hg.form
  obtain ⟨A3, n3, c3, A4, n4, c4, rfl⟩ := ha.shape
  obtain ⟨A5, c5, rfl, hl5, hm5, hC5⟩ := hl.form
  have HG := Lib.hid hg0
  have HA := Lib.hid ha0
  have HC5 := Lib.hid hC5
  have HW := Lib.hid within_any
  have hb0 : Below w.heap.size w ((w.alloc (.cells #[.slice A1 g.vals.length c1, .slice A2 g.edges.length c2] 48)).alloc (.cells #[.int .i64 a.start, .slice A3 n3 c3, .slice A4 n4 c4] 50)) := ((Below.refl _ _).alloc (Nat.le_refl _) _).alloc (by simp) _
  clear hg ha hl hg0 ha0 hC5
  go_enter Try.func71, Try.ntmps71
  go_wp2_with fail
  go_loop [11] (fun ii => ∃ i : Nat, i ≤ ss.length ∧ ii = .int .i64 i ∧ (ss.take i).all (fun s => wi s 0 ((g.vals.length : Int) - 1)) = true) (fun ii => ss.length - (intOf ii).toNat)
  case atStart => exact ⟨0, Nat.zero_le _, rfl, rfl⟩
  case round =>
    obtain ⟨i, hi, rfl, hall⟩ := hrel
    have HALL := Lib.hid hall
    clear hall
    by_cases hlt : i < ss.length
    · have hxi : ss[i]? = some ss[i] := List.getElem?_eq_getElem hlt
      generalize ss[i] = s at hxi
      obtain ⟨b, o, rfl, hb1, c0⟩ := HC5.out.int hxi
      have HX := Lib.hid hxi
      clear hxi
      by_cases g4 : wi s 0 ((g.vals.length : Int) - 1) = true
      · go_wp2_with (go_at_call 79; refine (HW.out _ _ _ _).mono ?_; rintro e w' ⟨rfl, rfl⟩)
        go_round
        case rel => exact ⟨i + 1, by omega, by go_num, all_take_succ HX.out HALL.out g4⟩
        case measure => simp [intOf]; omega
      · simp only [Bool.not_eq_true] at g4
        have hfin : ss.all (fun s => wi s 0 ((g.vals.length : Int) - 1)) = false := all_false_of HX.out g4
        have HF := Lib.hid hfin
        clear hfin
        go_wp2_with (go_at_call 79; refine (HW.out _ _ _ _).mono ?_; rintro e w' ⟨rfl, rfl⟩)
        go_ret
        exact ⟨by rw [HF.out]; rfl, hb0⟩
    · obtain rfl : i = ss.length := by omega
      have hfin : ss.all (fun s => wi s 0 ((g.vals.length : Int) - 1)) = true := by have := HALL.out; rwa [List.take_length] at this
      have HF := Lib.hid hfin
      clear hfin
      go_wp2_with fail
      refine (implValidGraph _ g _ (HG.out.keep hb0)).mono ?_
      rintro e w1 ⟨he, hb1⟩
      obtain ⟨u1, rfl⟩ := ext_of hb1
      have hb2 := below_trans hb0 hb1
      clear hb1
      subst he
      cases hgo : grOk g with
      | false =>
        have HGO := Lib.hid hgo
        clear hgo
        go_wp2_with fail
        go_ret
        exact ⟨by rw [HF.out, HGO.out]; rfl, hb2⟩
      | true =>
        have HGO := Lib.hid hgo
        clear hgo
        go_wp2_with fail
        refine (implValidAutomaton _ a _ (HA.out.keep hb2)).mono ?_
        rintro e w2 ⟨rfl, hb3⟩
        go_wp2_with fail
        go_ret
        exact ⟨by rw [HF.out, HGO.out]; rfl, below_trans hb2 hb3⟩
end Go.Proofs.Ytmlfkledhnlkeaa
