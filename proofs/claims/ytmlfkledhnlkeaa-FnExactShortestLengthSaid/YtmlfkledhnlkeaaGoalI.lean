/- The program's goals: the vertices of a node that accept. -/
import Derived.Test.YtmlfkledhnlkeaaGoalM
import Derived.Test.YtmlfkledhnlkeaaSetI
import Derived.Test.YtmlfkledhnlkeaaKeep
import Derived.Test.YtmlfkledhnlkeaaTail
import Derived.Test.YtmlfkledhnlkeaaRows2
namespace Go.Proofs.Ytmlfkledhnlkeaa
set_option linter.unusedVariables false
set_option linter.unusedSimpArgs false
open Go.ChangeShapes Go.WideShapes Go.ChangeAt Go.RowKit
attribute [local go_sem] ext_cell ext_frozen ext_lt ext_lt1 ext_lt2 ext_lt3 ltn2 ltn3 ltn13 lts1 lts2 lts3

set_option maxHeartbeats 4000000 in
theorem goals_any (vg va : Value) (g : Gr) (a : Au) (y : Nat) (w : World) (hgv : GrV 0 w.heap.size w vg g) (hav : AuV 0 w.heap.size w va a) (hg : GrOk g) (ha : auOk a = true) (hy : y < g.vals.length) :
    Calls Try.prog 132 #[vg, va, .int .i64 (y : Int)] w fun e w' => ∃ v', e = .returned v' ∧ Own w.heap.size w'.heap.size w' 3 cN 1 v' (goalsL g a y) ∧ Below w.heap.size w w' := by
  have hav0 := hav
  obtain ⟨A1, c1, A2, c2, rfl, hl1, hm1, -, -, hC1, -⟩ := hgv.form
  obtain ⟨A3, c3, A4, c4, rfl, hl3, hm3, hl4, hm4, -⟩ := hav.form ha
  have hn5 := hg.n5
  have hn12 := (auOk_iff.1 ha).1.2
  have hxi : g.vals[y]? = some g.vals[y] := List.getElem?_eq_getElem hy
  have hvr := hg.vals _ (List.getElem_mem hy)
  generalize g.vals[y] = vx at hxi hvr
  obtain ⟨vx, rfl⟩ := Int.eq_ofNat_of_zero_le hvr.1
  have hva := valAt_of hxi
  rw [Int.toNat_natCast] at hva
  obtain ⟨b1, o1, rfl, hb1, d1⟩ := hC1.int hxi
  have HAO := Lib.hid ha
  have HAV := Lib.hid hav0
  have HVA := Lib.hid hva
  have hb0 : Below w.heap.size w ((w.alloc (.cells #[.slice (some ⟨b1, o1, none⟩) g.vals.length c1, .slice A2 g.edges.length c2] 48)).alloc (.cells #[.int .i64 a.start, .slice A3 a.accept.length c3, .slice A4 a.accept.length c4] 50)) := ((Below.refl _ _).alloc (Nat.le_refl _) _).alloc (by simp) _
  have hyn : y * a.accept.length + a.accept.length ≤ 60 := by have := Nat.mul_le_mul (show y + 1 ≤ 5 by omega) hn12; rw [Nat.succ_mul] at this; omega
  obtain ⟨yn, hyn2⟩ : ∃ yn, yn = y * a.accept.length := ⟨_, rfl⟩
  rw [← hyn2] at hyn
  have q1 : IntKind.i64.wrap ((y : Int) * (a.accept.length : Int)) = (yn : Int) := by rw [IntWalk.i64_in _ (by rw [← Int.natCast_mul, ← hyn2]; omega), hyn2, Int.natCast_mul]
  have q1' : (y : Int) * (a.accept.length : Int) = (yn : Int) := by rw [hyn2, Int.natCast_mul]
  have q5 : IntKind.i64.wrap (yn : Int) = (yn : Int) := IntWalk.i64_in _ (by omega)
  have HYN := Lib.hid hyn2
  clear hgv hav ha hg hav0 hva hxi hC1 hyn2
  go_enter Try.func132, Try.ntmps132
  go_wp2_with fail
  obtain ⟨W0, hW0⟩ : ∃ W0, W0 = ((w.alloc (.cells #[.slice (some ⟨b1, o1, none⟩) g.vals.length c1, .slice A2 g.edges.length c2] 48)).alloc (.cells #[.int .i64 a.start, .slice A3 a.accept.length c3, .slice A4 a.accept.length c4] 50)) := ⟨_, rfl⟩
  rw [← hW0] at hb0 ⊢
  have x0 : W0.cell? ⟨w.heap.size, 0, none⟩ = some (.slice (some ⟨b1, o1, none⟩) g.vals.length c1) := by rw [hW0]; simp
  have y0 : W0.cell? ⟨w.heap.size + 1, 0, none⟩ = some (.int .i64 a.start) := by rw [hW0]; simp
  have y1 : W0.cell? ⟨w.heap.size + 1, 1, none⟩ = some (.slice A3 a.accept.length c3) := by rw [hW0]; simp
  have y2 : W0.cell? ⟨w.heap.size + 1, 2, none⟩ = some (.slice A4 a.accept.length c4) := by rw [hW0]; simp
  have d1 := kcell hb0 d1
  have l0 : w.heap.size + 1 < W0.heap.size := by rw [hW0]; simp
  have hs0 : w.heap.size + 1 + 1 = W0.heap.size := by rw [hW0]; simp
  rw [hs0]
  clear hW0 hs0
  go_loopw [8, 9] (fun out ii wr => ∃ i : Nat, i ≤ a.accept.length ∧ ii = .int .i64 (i : Int) ∧ wr.ownsRow W0.heap.size 3 1 out (goalsTo g a y i).length ((goalsTo g a y i).flatMap cN) ∧ Below W0.heap.size W0 wr) (fun _ ii _ => a.accept.length - (intOf ii).toNat)
  case atStart => exact ⟨0, Nat.zero_le _, rfl, World.ownsRow_lit W0 #[] 0 (Nat.le_refl _) (by decide) rfl, (Below.refl _ _).alloc (Nat.le_refl _) _⟩
  case round =>
    obtain ⟨i, hi, rfl, hrow, hbel⟩ := hrel
    have HROW := Lib.hid hrow
    have hgl := goalsTo_len g a y i
    clear hrow
    by_cases hlt : i < a.accept.length
    · have x0 := kcell hbel x0
      have y0 := kcell hbel y0
      have y1 := kcell hbel y1
      have y2 := kcell hbel y2
      have d1 := kcell hbel d1
      have hsz := hbel.size
      have hsz0 := hb0.size
      have k0 : w.heap.size < wr.heap.size := by omega
      have k1 : w.heap.size + 1 < wr.heap.size := by omega
      have k2 : b1 < wr.heap.size := by omega
      have hbw := below_trans hb0 hbel
      have s1 := shl_bit (s := i) (by omega)
      have s2 := shl_bit2 (s := i) (by omega)
      have s3 := shl_bit3 (s := i) (by omega)
      have q2 : IntKind.i64.wrap ((yn : Int) + (i : Int)) = (yn : Int) + (i : Int) := IntWalk.i64_in _ (by omega)
      have hyy : (y : Int) < (g.vals.length : Int) := by omega
      cases hb : accC a vx i with
      | true =>
        have hacc : ∀ W, Below w.heap.size w W → Calls Try.prog 95 #[.agg #[.int .i64 a.start, .slice A3 a.accept.length c3, .slice A4 a.accept.length c4], .int .i64 (bit i : Int), .int .i64 (vx : Int)] W fun e w' => e = .returned (.bool true) ∧ Below W.heap.size W w' := fun W hW => by
          have h := acceptsAt_any _ a (bit i) vx W (HAV.out.keep hW) HAO.out (bit_lt hlt) (by omega)
          rwa [acc_one _ _ (show i < 12 by omega), hb] at h
        have HACC := Lib.hid hacc
        have hgt := goalsTo_yes (g := g) (a := a) (y := y) (i := i) (by rw [HVA.out]; exact hb)
        rw [← HYN.out] at hgt
        have HGT := Lib.hid hgt
        clear hacc hb hgt
        go_wp2_with fail
        refine wp_region_ext_lit (by kernel_rfl) (by kernel_rfl) ?_
        repeat (go_big_quiet_step ((go_at_call 95; exact Calls.ext_of (HACC.out _ (below_trans hbw (ext_below _ _))))))
        refine wpQuiet_nil ?_
        intro _ hw'
        obtain ⟨u2, hw''⟩ := hw'
        subst hw''
        have hbx := ext_below wr u2
        have HROX := Lib.hid (ownsRow_below HROW.out hbx (Nat.le_refl _))
        have hszx := hbx.size
        go_wp2_with (at_builtin; (refine wpList_append1 cN elInt rfl _ _ rfl W0.heap.size _ (goalsTo g a y i) (yn + i) _ 1 _ (by rfl) HROX.out (by rfl) rfl rfl rfl (cN_one _) (by omega) (by omega) (by omega) ?_); rw [← HGT.out]; intro v' w4 hrow' hb4 _ _)
        go_roundw
        case rel => exact ⟨i + 1, by omega, by go_num, hrow', (hbel.trans (hbx.mono hsz)).trans hb4⟩
        case measure => simp [intOf]; omega
      | false =>
        have hacc : ∀ W, Below w.heap.size w W → Calls Try.prog 95 #[.agg #[.int .i64 a.start, .slice A3 a.accept.length c3, .slice A4 a.accept.length c4], .int .i64 (bit i : Int), .int .i64 (vx : Int)] W fun e w' => e = .returned (.bool false) ∧ Below W.heap.size W w' := fun W hW => by
          have h := acceptsAt_any _ a (bit i) vx W (HAV.out.keep hW) HAO.out (bit_lt hlt) (by omega)
          rwa [acc_one _ _ (show i < 12 by omega), hb] at h
        have HACC := Lib.hid hacc
        have hgt := goalsTo_no (g := g) (a := a) (y := y) (i := i) (by rw [HVA.out]; exact hb)
        have HGT := Lib.hid hgt
        clear hacc hb hgt
        go_wp2_with fail
        refine wp_region_ext_lit (by kernel_rfl) (by kernel_rfl) ?_
        repeat (go_big_quiet_step ((go_at_call 95; exact Calls.ext_of (HACC.out _ (below_trans hbw (ext_below _ _))))))
        refine wpQuiet_nil ?_
        intro _ hw'
        obtain ⟨u2, hw''⟩ := hw'
        subst hw''
        have hbx := ext_below wr u2
        have HROX := Lib.hid (ownsRow_below HROW.out hbx (Nat.le_refl _))
        go_wp2_with fail
        go_roundw
        case rel => exact ⟨i + 1, by omega, by go_num, by rw [HGT.out]; exact HROX.out, hbel.trans (hbx.mono hsz)⟩
        case measure => simp [intOf]; omega
    · obtain rfl : i = a.accept.length := by omega
      have hown := Own.of_row (xs := goalsTo g a y a.accept.length) (ownsRow_mono HROW.out hb0.size) rfl rfl
      have HO := Lib.hid hown
      clear hown
      go_wp2_with fail
      go_ret
      exact ⟨_, rfl, HO.out, below_trans hb0 hbel⟩
end Go.Proofs.Ytmlfkledhnlkeaa
