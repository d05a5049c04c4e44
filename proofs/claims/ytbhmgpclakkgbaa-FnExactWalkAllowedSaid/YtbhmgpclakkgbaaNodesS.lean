/- The reference's walks: their nodes, and when they are walks of a graph. -/
import Derived.Test.YtbhmgpclakkgbaaStepS
import Derived.Test.YtbhmgpclakkgbaaWalkM
import Derived.Test.YtbhmgpclakkgbaaGrow
import Derived.Test.YtbhmgpclakkgbaaHelpInt
namespace Go.Proofs.Ytbhmgpclakkgbaa
set_option linter.unusedVariables false
set_option linter.unusedSimpArgs false
open Go.ChangeShapes Go.WideShapes Go.ChangeAt Go.RowKit
attribute [local go_sem] ext_cell ext_frozen ext_lt ext_lt1 ext_lt2 ext_lt3 ltn2 ltn3 ltn13 lts1 lts2 lts3

theorem row_shapeS {W : World} {base k n : Nat} {e : TypeId} {v : Value} {cs : List Value} (h : W.ownsRow base e k v n cs) (hn : n ≠ 0) : ∃ g c, v = .slice (some ⟨g, 0, none⟩) n c ∧ base ≤ g ∧ g < W.heap.size ∧ n ≤ c ∧ c ≤ maxLen := by
  have hlt := h.lt
  obtain ⟨hl, hs⟩ := h
  rcases hs with ⟨_, h0⟩ | ⟨g, cap, cur, rfl, hg, hh, hnc, hcm, r⟩
  · exact absurd h0 hn
  · exact ⟨g, cap, rfl, hg, (hlt g rfl).2, hnc, hcm⟩

set_option maxRecDepth 100000 in
set_option maxHeartbeats 8000000 in
theorem specNodes (v1 v2 : Value) (g : Gr) (k : Wk) (w : World) (hv1 : GrV 0 w.heap.size w v1 g) (hv2 : WkV 0 w.heap.size w v2 k) :
    Calls Try.prog 91 #[v1, v2] w fun en w' => ∃ v, en = .returned (.tuple #[v, .bool (walkOk g k)]) ∧ Own w.heap.size w'.heap.size w' 3 cI 1 v (nodesOut g k) ∧ Below w.heap.size w w' := by
  have hv0 := hv1
  obtain ⟨vs, es, rfl, ⟨A1, c1, rfl, hl1, hm1, -⟩, hes⟩ := hv1
  obtain ⟨A2, c2, rfl, hl2, hm2, hx2⟩ := hes
  have HX2 := Lib.hid hx2
  obtain ⟨ss, rfl, ⟨A3, c3, rfl, hl3, hm3, hx3⟩⟩ := hv2
  unfold maxLen at hm1 hm2 hm3
  obtain ⟨st, steps⟩ := k
  simp only at *
  have hb0 : Below w.heap.size w ((w.alloc (.cells #[.slice A1 g.vals.length c1, .slice A2 g.edges.length c2] 44)).alloc (.cells #[.int .i64 st, .slice A3 steps.length c3] 57)) := ((Below.refl _ _).alloc (Nat.le_refl _) _).alloc (by simp) _
  have HX3 := Lib.hid hx3
  have hwo : walkOk g (st, steps) = (grOk g && wi st 0 ((g.vals.length : Int) - 1) && decide (steps.length ≤ 60) && (List.range steps.length).all (linkAt g (st, steps))) := rfl
  have HW := Lib.hid hwo
  clear hx3 hx2 hwo
  have hvg := specValidGraph _ g _ (hv0.keep hb0)
  have HV := Lib.hid hvg
  clear hvg
  go_enter Try.func91, Try.ntmps91
  go_wp2_with fail
  refine HV.out.mono ?_
  rintro e w1 ⟨rfl, hb1⟩
  have b0 := ((Blk.new w _ _ w.heap.size rfl).alloc _).keep hb1
  have b1 := (Blk.new (w.alloc _) _ _ (w.heap.size + 1) (by simp)).keep hb1
  have hb2 := below_trans hb0 hb1
  clear hb0 hb1 HV
  have x0 : w1.cell? ⟨w.heap.size, 0, none⟩ = some _ := b0.cell 0
  have x1 : w1.cell? ⟨w.heap.size, 1, none⟩ = some _ := b0.cell 1
  have y0 : w1.cell? ⟨w.heap.size + 1, 0, none⟩ = some _ := b1.cell 0
  have y1 : w1.cell? ⟨w.heap.size + 1, 1, none⟩ = some _ := b1.cell 1
  have hlt1 := b1.lt
  have HWI := Lib.hid l1In_any
  cases hg : grOk g with
  | false =>
    have hfin : walkOk g (st, steps) = false := by rw [HW.out, hg]; rfl
    have HF := Lib.hid hfin
    clear HW hfin hg
    go_wp2_with fail
    go_ret2
    exact ⟨_, by rw [HF.out]; rfl, by rw [nodesOut_no HF.out]; exact (Own.of_row (World.ownsRow_lit _ #[] 0 (Nat.le_refl _) (by decide) rfl) rfl rfl).mono hb2.size (Nat.le_refl _), hb2.alloc hb2.size _⟩
  | true =>
    have q1 : IntKind.i64.wrap ((g.vals.length : Int) - 1) = (g.vals.length : Int) - 1 := IntWalk.i64_in _ (by omega)
    cases hs : wi st 0 ((g.vals.length : Int) - 1) with
    | false =>
      have hfin : walkOk g (st, steps) = false := by rw [HW.out, hg, hs]; rfl
      have HF := Lib.hid hfin
      clear HW hfin hg
      go_wp2_with (go_at_call 86; refine (HWI.out _ _ _ _).mono ?_; rintro e w1 ⟨rfl, rfl⟩)
      go_ret2
      exact ⟨_, by rw [HF.out]; rfl, by rw [nodesOut_no HF.out]; exact (Own.of_row (World.ownsRow_lit _ #[] 0 (Nat.le_refl _) (by decide) rfl) rfl rfl).mono hb2.size (Nat.le_refl _), hb2.alloc hb2.size _⟩
    | true =>
      by_cases hlen : steps.length ≤ 60
      · have hlen' : decide ((steps.length : Int) > 60) = false := by simp; omega
        have hfin : walkOk g (st, steps) = (List.range steps.length).all (linkAt g (st, steps)) := by rw [HW.out, hg, hs]; simp [hlen]
        have HF := Lib.hid hfin
        have HG := Lib.hid hg
        clear HW hfin hg
        go_wp2_with (go_at_call 86; refine (HWI.out _ _ _ _).mono ?_; rintro e w1 ⟨rfl, rfl⟩)
        have hst0 : 0 ≤ st := by unfold wi at hs; simp at hs; omega
        have HS := Lib.hid hs
        clear hs
        go_loopw [6, 7] (fun out ii wr => ∃ i : Nat, i ≤ steps.length ∧ ii = .int .i64 i ∧ (List.range i).all (linkAt g (st, steps)) = true ∧ wr.ownsRow w1.heap.size 3 1 out ((nodesL g (st, steps)).take (i + 1)).length (((nodesL g (st, steps)).take (i + 1)).flatMap cI) ∧ (∃ x, (nodesL g (st, steps))[i]? = some x ∧ 0 ≤ x) ∧ Below w1.heap.size w1 wr) (fun _ ii _ => steps.length - (intOf ii).toNat)
        case atStart => exact ⟨0, Nat.zero_le _, rfl, rfl, World.ownsRow_lit w1 #[.int .i64 st] 1 (Nat.le_refl _) (by decide) rfl, ⟨st, rfl, hst0⟩, (Below.refl _ _).alloc (Nat.le_refl _) _⟩
        case round =>
          obtain ⟨i, hi, rfl, hal, hrow, ⟨x, hxl, hx0⟩, hbel⟩ := hrel
          have HA := Lib.hid hal
          have hbw := below_trans hb2 hbel
          have hml : ((nodesL g (st, steps)).take (i + 1)).length = i + 1 := by rw [List.length_take, nodesL_len]; simp only; omega
          clear hal
          by_cases hlt : i < steps.length
          · have hxs : steps[i]? = some steps[i] := List.getElem?_eq_getElem hlt
            generalize steps[i] = s at hxs
            obtain ⟨sid, sinv⟩ := s
            obtain ⟨b, o, rfl, -, hb, hc⟩ := HX3.out i _ hxs
            have d0 := hc 0 _ rfl
            have d1 := hc 1 _ rfl
            simp only [Nat.add_zero] at d0
            have d0 := (hbw.cell (p := ⟨_, _, none⟩) hb).trans d0
            have d1 := (hbw.cell (p := ⟨_, _, none⟩) hb).trans d1
            obtain ⟨gb, cp, hv, hg1, hg2, hnc, hcm⟩ := row_shapeS hrow (by omega)
            obtain ⟨m, hm⟩ : ∃ m, m = i + 1 := ⟨_, rfl⟩
            rw [hml, ← hm] at hv
            subst hv
            have hrm := hrow
            rw [show ((nodesL g (st, steps)).take (i + 1)).length = m by rw [hml, hm]] at hrm
            have c0 := (World.ownsRow.cellAt hrm i (by omega)).trans (by have := flat_at cI_len (xs := (nodesL g (st, steps)).take (i + 1)) (i := i) (x := x) (by rw [List.getElem?_take]; simp [hxl]) 0 _ rfl; simpa using this)
            clear hrm
            have hei := fun W (hW : Below w.heap.size w W) => specEdgeIndex _ g sid W (hv0.keep hW)
            have hlk := linkAt_eq (k := (st, steps)) hxs hxl
            have HLK := Lib.hid hlk
            have HEI := Lib.hid hei
            have HXS := Lib.hid hxs
            have HROW := Lib.hid hrow
            have hbx := fun u => below_trans hbw (ext_below wr u)
            have x0 := (hbel.cell (p := ⟨_, _, none⟩) (by simp only; omega)).trans x0
            have x1 := (hbel.cell (p := ⟨_, _, none⟩) (by simp only; omega)).trans x1
            have y0 := (hbel.cell (p := ⟨_, _, none⟩) (by simp only; omega)).trans y0
            have y1 := (hbel.cell (p := ⟨_, _, none⟩) (by simp only; omega)).trans y1
            have hs1 := hbel.size
            have q2 : IntKind.i64.wrap ((m : Int) - 1) = (i : Int) := by rw [IntWalk.i64_in _ (by omega)]; omega
            have q3 : (i : Int) < (m : Int) := by omega
            have HM := Lib.hid hm
            have hbw' : b < wr.heap.size := by omega
            have k0 : w.heap.size < wr.heap.size := by omega
            have k1 : w.heap.size + 1 < wr.heap.size := by omega
            have hspec := edgeIdx_spec g sid
            have HSPEC := Lib.hid hspec
            clear hlk hei hxs hrow hml hm hxl hc q1 hnc hcm hspec
            rcases HSPEC.out with ⟨hk, hno⟩ | ⟨ix, e, hk, hex, he, hno⟩
            · have hsn := stepEd_none hno
              have hsf : stepFrom g (sid, sinv) = -1 := by rw [stepFrom]; simp [hsn]
              rw [hk] at HEI
              have hfin : walkOk g (st, steps) = false := by rw [HF.out]; exact range_all_false hlt (by rw [HLK.out, hsf]; simp; omega)
              have HFI := Lib.hid hfin
              clear hk hno hsn hsf hfin HSPEC
              go_wp2_with fail
              refine wp_region_ext_lit (by kernel_rfl) (by kernel_rfl) ?_
              repeat (go_big_quiet_step ((go_at_call 128; exact Calls.ext_of (HEI.out _ (hbx _)))))
              refine wpQuiet_nil ?_
              intro _ hw'
              obtain ⟨u2, hw''⟩ := hw'
              subst hw''
              go_wp2_with fail
              go_ret2
              exact ⟨_, by rw [HFI.out]; rfl, by rw [nodesOut_no HFI.out]; exact (Own.of_row (World.ownsRow_lit _ #[] 0 (Nat.le_refl _) (by decide) rfl) rfl rfl).mono (hbx _).size (Nat.le_refl _), (hbx _).alloc (hbx _).size _⟩
            · have hse := stepEd_some HG.out hex he hno
              have HSE := Lib.hid hse
              rw [hk] at HEI
              obtain ⟨b9, o9, rfl, -, hb9, hc9⟩ := HX2.out ix e hex
              have e1 := hc9 1 _ rfl
              have e2 := hc9 2 _ rfl
              have e1 := (hbw.cell (p := ⟨_, _, none⟩) hb9).trans e1
              have e2 := (hbw.cell (p := ⟨_, _, none⟩) hb9).trans e2
              have hb9' : b9 < wr.heap.size := by omega
              have hixl : ix < g.edges.length := (List.getElem?_eq_some_iff.1 hex).1
              clear hk hno he hex hse hc9 HSPEC
              cases sinv with
              | true =>
                have hsf : stepFrom g (sid, true) = e.2.2.1 := by rw [stepFrom]; simp [HSE.out]
                have hsto : stepTo g (sid, true) = e.2.1 := by rw [stepTo, stepFrom]; simp [HSE.out]
                have HSF := Lib.hid hsf
                have HSTO := Lib.hid hsto
                clear hsf hsto
                by_cases hyx : e.2.2.1 = x
                · have hq : (e.2.2.1 != x) = false := by simp [hyx]
                  have hto0 : 0 ≤ stepTo g (sid, true) := by
                    have h1 := @stepFrom_neg g (sid, true)
                    have h2 := @stepFrom_neg g (sid, !true)
                    have h3 : stepTo g (sid, true) = stepFrom g (sid, !true) := rfl
                    have h4 := HSF.out
                    rw [h3]
                    by_cases h5 : 0 ≤ stepFrom g (sid, !true)
                    · exact h5
                    · have h6 := h2.1 (by omega)
                      have h7 := h1.2 h6
                      omega
                  have HYX := Lib.hid hyx
                  have HTO0 := Lib.hid hto0
                  clear hyx hto0
                  go_wp2_with fail
                  refine wp_region_ext_lit (by kernel_rfl) (by kernel_rfl) ?_
                  repeat (go_big_quiet_step ((go_at_call 128; exact Calls.ext_of (HEI.out _ (hbx _)))))
                  refine wpQuiet_nil ?_
                  intro _ hw'
                  obtain ⟨u2, hw''⟩ := hw'
                  subst hw''
                  have hw3 := ext_below wr u2
                  have hrow3 := ownsRow_below HROW.out hw3 (Nat.le_refl _)
                  have hs3 := Nat.le_trans hs1 hw3.size
                  have hbel3 := below_trans hbel hw3
                  have htl : ((nodesL g (st, steps)).take (i + 1)).length ≤ 61 := by rw [List.length_take]; omega
                  clear hw3
                  go_wp2_with (at_builtin; (refine wpList_append1 cI elInt rfl _ _ rfl w1.heap.size (.slice (some ⟨gb, 0, none⟩) m cp) ((nodesL g (st, steps)).take (i + 1)) (e.2.1) _ 1 _ (by rfl) hrow3 (by rfl) rfl rfl rfl (cI_one _) (by omega) (by omega) hs3 ?_); rw [← HSTO.out, ← nodesL_succ HXS.out]; intro v' w4 hrow' hb4 _ _)
                  go_roundw
                  case rel => exact ⟨i + 1, by omega, by go_num, range_all_succ HA.out (by rw [HLK.out, HSF.out, HYX.out]; simp), hrow', ⟨_, nodesL_next HXS.out, HTO0.out⟩, hbel3.trans hb4⟩
                  case measure => simp [intOf]; omega
                · have hq : (e.2.2.1 != x) = true := by simp [hyx]
                  have hfin : walkOk g (st, steps) = false := by rw [HF.out]; exact range_all_false hlt (by rw [HLK.out, HSF.out]; simpa using hyx)
                  have HFI := Lib.hid hfin
                  clear hyx hfin
                  go_wp2_with fail
                  refine wp_region_ext_lit (by kernel_rfl) (by kernel_rfl) ?_
                  repeat (go_big_quiet_step ((go_at_call 128; exact Calls.ext_of (HEI.out _ (hbx _)))))
                  refine wpQuiet_nil ?_
                  intro _ hw'
                  obtain ⟨u2, hw''⟩ := hw'
                  subst hw''
                  go_wp2_with fail
                  go_ret2
                  exact ⟨_, by rw [HFI.out]; rfl, by rw [nodesOut_no HFI.out]; exact (Own.of_row (World.ownsRow_lit _ #[] 0 (Nat.le_refl _) (by decide) rfl) rfl rfl).mono (hbx _).size (Nat.le_refl _), (hbx _).alloc (hbx _).size _⟩
              | false =>
                have hsf : stepFrom g (sid, false) = e.2.1 := by rw [stepFrom]; simp [HSE.out]
                have hsto : stepTo g (sid, false) = e.2.2.1 := by rw [stepTo, stepFrom]; simp [HSE.out]
                have HSF := Lib.hid hsf
                have HSTO := Lib.hid hsto
                clear hsf hsto
                by_cases hyx : e.2.1 = x
                · have hq : (e.2.1 != x) = false := by simp [hyx]
                  have hto0 : 0 ≤ stepTo g (sid, false) := by
                    have h1 := @stepFrom_neg g (sid, false)
                    have h2 := @stepFrom_neg g (sid, !false)
                    have h3 : stepTo g (sid, false) = stepFrom g (sid, !false) := rfl
                    have h4 := HSF.out
                    rw [h3]
                    by_cases h5 : 0 ≤ stepFrom g (sid, !false)
                    · exact h5
                    · have h6 := h2.1 (by omega)
                      have h7 := h1.2 h6
                      omega
                  have HYX := Lib.hid hyx
                  have HTO0 := Lib.hid hto0
                  clear hyx hto0
                  go_wp2_with fail
                  refine wp_region_ext_lit (by kernel_rfl) (by kernel_rfl) ?_
                  repeat (go_big_quiet_step ((go_at_call 128; exact Calls.ext_of (HEI.out _ (hbx _)))))
                  refine wpQuiet_nil ?_
                  intro _ hw'
                  obtain ⟨u2, hw''⟩ := hw'
                  subst hw''
                  have hw3 := ext_below wr u2
                  have hrow3 := ownsRow_below HROW.out hw3 (Nat.le_refl _)
                  have hs3 := Nat.le_trans hs1 hw3.size
                  have hbel3 := below_trans hbel hw3
                  have htl : ((nodesL g (st, steps)).take (i + 1)).length ≤ 61 := by rw [List.length_take]; omega
                  clear hw3
                  go_wp2_with (at_builtin; (refine wpList_append1 cI elInt rfl _ _ rfl w1.heap.size (.slice (some ⟨gb, 0, none⟩) m cp) ((nodesL g (st, steps)).take (i + 1)) (e.2.2.1) _ 1 _ (by rfl) hrow3 (by rfl) rfl rfl rfl (cI_one _) (by omega) (by omega) hs3 ?_); rw [← HSTO.out, ← nodesL_succ HXS.out]; intro v' w4 hrow' hb4 _ _)
                  go_roundw
                  case rel => exact ⟨i + 1, by omega, by go_num, range_all_succ HA.out (by rw [HLK.out, HSF.out, HYX.out]; simp), hrow', ⟨_, nodesL_next HXS.out, HTO0.out⟩, hbel3.trans hb4⟩
                  case measure => simp [intOf]; omega
                · have hq : (e.2.1 != x) = true := by simp [hyx]
                  have hfin : walkOk g (st, steps) = false := by rw [HF.out]; exact range_all_false hlt (by rw [HLK.out, HSF.out]; simpa using hyx)
                  have HFI := Lib.hid hfin
                  clear hyx hfin
                  go_wp2_with fail
                  refine wp_region_ext_lit (by kernel_rfl) (by kernel_rfl) ?_
                  repeat (go_big_quiet_step ((go_at_call 128; exact Calls.ext_of (HEI.out _ (hbx _)))))
                  refine wpQuiet_nil ?_
                  intro _ hw'
                  obtain ⟨u2, hw''⟩ := hw'
                  subst hw''
                  go_wp2_with fail
                  go_ret2
                  exact ⟨_, by rw [HFI.out]; rfl, by rw [nodesOut_no HFI.out]; exact (Own.of_row (World.ownsRow_lit _ #[] 0 (Nat.le_refl _) (by decide) rfl) rfl rfl).mono (hbx _).size (Nat.le_refl _), (hbx _).alloc (hbx _).size _⟩
          · obtain rfl : i = steps.length := by omega
            have y1 := (hbel.cell (p := ⟨_, _, none⟩) (by simp only; omega)).trans y1
            have hlw := hbel.size
            have k1 : w.heap.size + 1 < wr.heap.size := by omega
            have hfin : walkOk g (st, steps) = true := by rw [HF.out, HA.out]
            have HFF := Lib.hid hfin
            have htk : (nodesL g (st, steps)).take (steps.length + 1) = nodesL g (st, steps) := List.take_of_length_le (by rw [nodesL_len]; simp)
            rw [htk] at hrow
            have HROW := Lib.hid hrow
            clear hfin HF HA htk hml hrow
            go_wp2_with fail
            go_ret2
            exact ⟨_, by rw [HFF.out]; rfl, by rw [nodesOut_yes HFF.out]; exact (Own.of_row HROW.out rfl rfl).mono hb2.size (Nat.le_refl _), hbw⟩
      · have hlen' : decide ((steps.length : Int) > 60) = true := by simp; omega
        have hfin : walkOk g (st, steps) = false := by rw [HW.out]; simp [hlen]
        have HF := Lib.hid hfin
        clear HW hfin hg
        go_wp2_with (go_at_call 86; refine (HWI.out _ _ _ _).mono ?_; rintro e w1 ⟨rfl, rfl⟩)
        go_ret2
        exact ⟨_, by rw [HF.out]; rfl, by rw [nodesOut_no HF.out]; exact (Own.of_row (World.ownsRow_lit _ #[] 0 (Nat.le_refl _) (by decide) rfl) rfl rfl).mono hb2.size (Nat.le_refl _), hb2.alloc hb2.size _⟩
end Go.Proofs.Ytbhmgpclakkgbaa
