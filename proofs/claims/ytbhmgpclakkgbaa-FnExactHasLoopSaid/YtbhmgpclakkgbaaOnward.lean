/- The reference's 'l13Onward': the states that are reached from a state by one letter or more. -/
import Derived.Test.YtbhmgpclakkgbaaReach
import Derived.Test.YtbhmgpclakkgbaaHelpBool
import Derived.Test.YtbhmgpclakkgbaaAutS
import Derived.Test.YtbhmgpclakkgbaaFound
namespace Go.Proofs.Ytbhmgpclakkgbaa
set_option linter.unusedVariables false
set_option linter.unusedSimpArgs false
open Go.ChangeShapes Go.WideShapes Go.ChangeAt Go.RowKit
attribute [local go_sem] ext_cell ext_frozen ext_lt ext_lt1 ext_lt2 ext_lt3

set_option maxHeartbeats 4000000 in
set_option maxRecDepth 100000 in
theorem l13Onward_any (v : Value) (a : Au) (fr : Nat) (w : World) (hv : AuV 0 w.heap.size w v a) (hok : auOk a = true) (hfr : fr < a.accept.length) :
    Calls Try.prog 64 #[v, .int .i64 (fr : Int)] w fun e w' => ∃ v' bs, e = .returned v' ∧ Own w.heap.size w'.heap.size w' 4 cB 1 v' bs ∧ Below w.heap.size w w' ∧ bs.length = a.accept.length ∧ ∀ t : Nat, bs[t]? = some true ↔ Onward a.next fr t := by
  obtain ⟨⟨hn1, hn2⟩, ⟨hs1, hs2⟩, hnl, hrok⟩ := auOk_iff.1 hok
  obtain ⟨st, accept, next⟩ := a
  simp only at *
  obtain ⟨ac, nx, rfl, ⟨A1, c1, rfl, hl1, hm1, -⟩, us, ⟨A2, c2, rfl, hl2, hm2, hx2⟩, hul, hrows⟩ := hv
  simp only at *
  rw [hul] at hl2 ⊢
  have HU := Lib.hid hul
  have HNL := Lib.hid hnl
  have hnlt : next.length ≤ 12 := by omega
  have HN2 := Lib.hid (Nat.le_of_eq hnl)
  have HOK := Lib.hid hrok
  clear hul hnl hok hrok
  unfold maxLen at hm1 hm2
  have HX2 := Lib.hid hx2
  have HR := Lib.hid hrows
  clear hx2 hrows
  -- one row: its header's place and its numbers
  have hget : ∀ i, i < accept.length → ∃ (row : List Int) (b2 o2 : Nat) (A3 : Option Addr) (c3 : Nat), next[i]? = some row ∧ A2 = some ⟨b2, o2, none⟩ ∧ b2 < w.heap.size ∧ w.cell? ⟨b2, o2 + i, none⟩ = some (.slice A3 row.length c3) ∧
      row.length = 9 ∧ ∀ j x, row[j]? = some x → (∃ b3 o3, A3 = some ⟨b3, o3, none⟩ ∧ b3 < w.heap.size ∧ w.cell? ⟨b3, o3 + j, none⟩ = some (.int .i64 x)) ∧ -1 ≤ x ∧ x ≤ (accept.length : Int) - 1 := by
    intro i hi
    have hin : i < next.length := by have := HNL.out; omega
    have hxi : next[i]? = some next[i] := List.getElem?_eq_getElem hin
    obtain ⟨u, hu⟩ : ∃ u, us[i]? = some u := ⟨_, List.getElem?_eq_getElem (by have := HU.out; omega)⟩
    obtain ⟨b2, o2, hA, -, hb2, hc2⟩ := HX2.out i u hu
    have hvi := HR.out i u _ hu hxi
    have hrk := rowOk_iff.1 (HOK.out _ (List.getElem_mem hin))
    obtain ⟨A3, c3, rfl, hl3, hm3, hx3⟩ := hvi
    refine ⟨_, b2, o2, A3, c3, hxi, hA, hb2, ?_, hrk.2, fun j x hx => ⟨?_, hrk.1 x (List.mem_of_getElem? hx)⟩⟩
    · have := hc2 0 _ rfl
      simpa using this
    · obtain ⟨b3, o3, hA3, -, hb3, hc3⟩ := hx3 j x hx
      refine ⟨b3, o3, hA3, hb3, ?_⟩
      have := hc3 0 _ rfl
      simpa using this
  have HG := Lib.hid hget
  clear hget
  go_enter Try.func64, Try.ntmps64
  go_wp2_with (at_make; refine wpList_makeE (P := Try.prog) cB false elBool rfl rfl rfl _ _ rfl (w.heap.size + 1) accept.length _ (by rfl) (by rfl) rfl (by omega) (by unfold maxLen; omega) (by simp) ?_; intro w1 hrow1 hbel1
               have b0 := (Blk.new w _ _ w.heap.size rfl).below hbel1 (by simp)
               have hb1 : Below w.heap.size w w1 := ((Below.refl _ _).alloc (Nat.le_refl _) _).trans (hbel1.mono (by simp))
               simp only [World.size_alloc] at hrow1 ⊢
               have HRW1 := Lib.hid hrow1
               clear hbel1 hrow1)
  obtain ⟨row, b2, o2, A3, c3, hxi, rfl, hb2, hcu, h9, helem⟩ := HG.out fr hfr
  have HXI := Lib.hid hxi
  have H9 := Lib.hid h9
  have HE := Lib.hid helem
  have hr9 : row.length ≤ 9 ∧ 9 ≤ row.length := by omega
  have HB0 := Lib.hid b0
  clear hxi h9 helem b0
  go_loopw [6] (fun kk wr => ∃ (j : Nat) (bs : List Bool), j ≤ 9 ∧ kk = .int .i64 j ∧ OnFirst next accept.length fr row bs j ∧
      wr.ownsRow (w.heap.size + 1) 4 1 (.slice (some ⟨w.heap.size + 1, 0, none⟩) accept.length accept.length) accept.length (bs.flatMap cB) ∧
      Below w.heap.size w wr ∧ Blk wr w.heap.size 28 #[.int .i64 st, .slice A1 accept.length c1, .slice (some ⟨b2, o2, none⟩) next.length c2]) (fun kk _ => 9 - (intOf kk).toNat)
  case atStart => exact ⟨0, _, Nat.zero_le _, rfl, OnFirst.init HXI.out, HRW1.out, hb1, HB0.out⟩
  case round =>
    clear hb1
    obtain ⟨j, bs, hj, rfl, hof, hrow, hbel, hblk⟩ := hrel
    have hsz1 : w.heap.size + 1 < wr.heap.size := (hrow.lt (w.heap.size + 1) rfl).2
    have hzw : w.heap.size < wr.heap.size := by omega
    have hb2w : b2 < wr.heap.size := by omega
    have d1 : wr.cell? ⟨w.heap.size, 2, none⟩ = some (.slice (some ⟨b2, o2, none⟩) next.length c2) := hblk.cell 2
    have d2 := (hbel.cell (p := ⟨b2, o2 + fr, none⟩) hb2).trans hcu
    have hfrn : fr < next.length := by have := HNL.out; omega
    by_cases hlt : j < 9
    · have hxj : row[j]? = some row[j] := List.getElem?_eq_getElem (by omega)
      generalize row[j] = t at hxj
      obtain ⟨⟨b3, o3, rfl, hb3, hc3⟩, ht1, ht2⟩ := HE.out j t hxj
      have d3 := (hbel.cell (p := ⟨b3, o3 + j, none⟩) hb3).trans hc3
      by_cases ht0 : t < 0
      · have hof2 := hof.skip hxj ht0
        have HRW := Lib.hid hrow
        have HB := Lib.hid hblk
        clear hrow hblk hxj hof
        go_wp2_with fail
        go_roundw
        case rel => exact ⟨j + 1, bs, by omega, by go_num, hof2, HRW.out, hbel, HB.out⟩
        case measure => simp [intOf]; omega
      · obtain ⟨t, rfl⟩ := Int.eq_ofNat_of_zero_le (show 0 ≤ t by omega)
        have htn : t < accept.length := by omega
        obtain ⟨b, hb⟩ : ∃ b, bs[t]? = some b := ⟨_, List.getElem?_eq_getElem (by rw [hof.len]; exact htn)⟩
        have d6 := World.ownsRow.cellAt hrow t (by omega)
        rw [flatB_at hb] at d6
        have f6 := World.ownsRow.frozenAt hrow t
        have hof2 := hof.set hxj htn
        have hrow2 := (World.ownsRow.stored hrow t (.bool true)).1
        rw [flatB_set] at hrow2
        have HRW := Lib.hid hrow2
        have HB := Lib.hid (hblk.far (p := ⟨w.heap.size + 1, t, none⟩) (by simp) (.bool true))
        have hbel2 := hbel.setCell (p := ⟨w.heap.size + 1, t, none⟩) (Nat.le_succ _) (.bool true)
        clear hrow hrow2 hblk hxj hof hb
        go_wp2_with fail
        go_roundw
        case rel => exact ⟨j + 1, _, by omega, by go_num, hof2, HRW.out, hbel2, HB.out⟩
        case measure => simp [intOf]; omega
    · obtain rfl : j = 9 := by omega
      rw [← H9.out] at hof
      have hout := OnOut.init hof.fin
      have HRW := Lib.hid hrow
      have HB := Lib.hid hblk
      have d0 : wr.cell? ⟨w.heap.size, 1, none⟩ = some (.slice A1 accept.length c1) := hblk.cell 1
      clear hrow hblk hof d1 d2
      go_wp2_with fail
      go_loopw [7] (fun mm w' => ∃ (m : Nat) (bs : List Bool), m ≤ accept.length ∧ mm = .int .i64 m ∧ OnOut next accept.length fr bs m ∧ w'.ownsRow (w.heap.size + 1) 4 1 (.slice (some ⟨w.heap.size + 1, 0, none⟩) accept.length accept.length) accept.length (bs.flatMap cB) ∧
          Below w.heap.size w w' ∧ Blk w' w.heap.size 28 #[.int .i64 st, .slice A1 accept.length c1, .slice (some ⟨b2, o2, none⟩) next.length c2]) (fun mm _ => accept.length - (intOf mm).toNat)
      case atStart => exact ⟨0, bs, Nat.zero_le _, rfl, hout, HRW.out, hbel, HB.out⟩
      case round =>
        clear hout hbel HRW HB d0 hsz1 hzw hb2w
        obtain ⟨m, bs, hm, rfl, hout, hrow, hbel, hblk⟩ := hrel
        have d0 : wr.cell? ⟨w.heap.size, 1, none⟩ = some (.slice A1 accept.length c1) := hblk.cell 1
        by_cases hltm : m < accept.length
        · have HRW := Lib.hid hrow
          have HB := Lib.hid hblk
          have hin0 := OnIn.init hout.1
          clear hrow hblk
          go_wp2_with fail
          go_loopw [8] (fun ss w' => ∃ (i : Nat) (bs1 : List Bool), i ≤ accept.length ∧ ss = .int .i64 i ∧ OnIn next accept.length fr bs bs1 i 0 ∧ w'.ownsRow (w.heap.size + 1) 4 1 (.slice (some ⟨w.heap.size + 1, 0, none⟩) accept.length accept.length) accept.length (bs1.flatMap cB) ∧
          Below w.heap.size w w' ∧ Blk w' w.heap.size 28 #[.int .i64 st, .slice A1 accept.length c1, .slice (some ⟨b2, o2, none⟩) next.length c2]) (fun ss _ => accept.length - (intOf ss).toNat)
          case atStart => exact ⟨0, bs, Nat.zero_le _, rfl, hin0, HRW.out, hbel, HB.out⟩
          case round =>
            clear hin0 hbel HRW HB d0
            obtain ⟨i, bs1, hi, rfl, hin, hrow, hbel, hblk⟩ := hrel
            have d0 : wr.cell? ⟨w.heap.size, 1, none⟩ = some (.slice A1 accept.length c1) := hblk.cell 1
            by_cases hlti : i < accept.length
            · obtain ⟨rowi, b2', o2', A3', c3', hxi', hA', hb2', hcu', h9', helem'⟩ := HG.out i hlti
              have hae : b2 = b2' ∧ o2 = o2' := by injection hA' with h1; injection h1 with h1 h2; exact ⟨h1, h2⟩
              obtain ⟨rfl, rfl⟩ := hae
              have HXI' := Lib.hid hxi'
              have H9' := Lib.hid h9'
              have HE' := Lib.hid helem'
              have hr9' : rowi.length ≤ 9 ∧ 9 ≤ rowi.length := by omega
              have HRW := Lib.hid hrow
              have HB := Lib.hid hblk
              clear hrow hblk hxi' h9' helem' hA'
              go_wp2_with fail
              go_loopw [9] (fun kk w' => ∃ (j : Nat) (bs2 : List Bool), j ≤ 9 ∧ kk = .int .i64 j ∧ OnIn next accept.length fr bs bs2 i j ∧ w'.ownsRow (w.heap.size + 1) 4 1 (.slice (some ⟨w.heap.size + 1, 0, none⟩) accept.length accept.length) accept.length (bs2.flatMap cB) ∧
          Below w.heap.size w w' ∧ Blk w' w.heap.size 28 #[.int .i64 st, .slice A1 accept.length c1, .slice (some ⟨b2, o2, none⟩) next.length c2]) (fun kk _ => 9 - (intOf kk).toNat)
              case atStart => exact ⟨0, bs1, Nat.zero_le _, rfl, hin, HRW.out, hbel, HB.out⟩
              case round =>
                clear hin hbel HRW HB d0
                obtain ⟨j, bs2, hj, rfl, hin, hrow, hbel, hblk⟩ := hrel
                have hsz1 : w.heap.size + 1 < wr.heap.size := (hrow.lt (w.heap.size + 1) rfl).2
                have hzw : w.heap.size < wr.heap.size := by omega
                have hb2w : b2 < wr.heap.size := by omega
                have d1 : wr.cell? ⟨w.heap.size, 2, none⟩ = some (.slice (some ⟨b2, o2, none⟩) next.length c2) := hblk.cell 2
                have d2 := (hbel.cell (p := ⟨b2, o2 + i, none⟩) hb2).trans hcu'
                have hin2 : i < next.length := by have := HNL.out; omega
                by_cases hlt : j < 9
                · have hxj : rowi[j]? = some rowi[j] := List.getElem?_eq_getElem (by omega)
                  generalize rowi[j] = t at hxj
                  obtain ⟨⟨b3, o3, rfl, hb3, hc3⟩, ht1, ht2⟩ := HE'.out j t hxj
                  have d3 := (hbel.cell (p := ⟨b3, o3 + j, none⟩) hb3).trans hc3
                  obtain ⟨bi, hbi⟩ : ∃ b, bs2[i]? = some b := ⟨_, List.getElem?_eq_getElem (by rw [hin.base.len]; exact hlti)⟩
                  have d5 := World.ownsRow.cellAt hrow i (by omega)
                  rw [flatB_at hbi] at d5
                  by_cases hskip : bi = false ∨ t < 0
                  · have hin3 := hin.skip HXI'.out hxj (by rcases hskip with h | h; exact .inl (by rw [hbi, h]); exact .inr h)
                    have HRW := Lib.hid hrow
                    have HB := Lib.hid hblk
                    clear hrow hblk hxj hin hbi
                    cases bi with
                    | false =>
                      clear hskip
                      go_wp2_with fail
                      go_roundw
                      case rel => exact ⟨j + 1, bs2, by omega, by go_num, hin3, HRW.out, hbel, HB.out⟩
                      case measure => simp [intOf]; omega
                    | true =>
                      have ht0 : t < 0 := by rcases hskip with h | h; cases h; exact h
                      have ht0' : decide (t ≥ 0) = false := by simp; omega
                      clear hskip
                      go_wp2_with fail
                      go_roundw
                      case rel => exact ⟨j + 1, bs2, by omega, by go_num, hin3, HRW.out, hbel, HB.out⟩
                      case measure => simp [intOf]; omega
                  · obtain rfl : bi = true := by cases bi <;> simp_all
                    have ht0 : ¬ t < 0 := fun h => hskip (.inr h)
                    clear hskip
                    obtain ⟨t, rfl⟩ := Int.eq_ofNat_of_zero_le (show 0 ≤ t by omega)
                    have htn : t < accept.length := by omega
                    obtain ⟨b, hb⟩ : ∃ b, bs2[t]? = some b := ⟨_, List.getElem?_eq_getElem (by rw [hin.base.len]; exact htn)⟩
                    have d6 := World.ownsRow.cellAt hrow t (by omega)
                    rw [flatB_at hb] at d6
                    have f6 := World.ownsRow.frozenAt hrow t
                    have hin3 := hin.set HXI'.out hxj hbi htn
                    have hrow2 := (World.ownsRow.stored hrow t (.bool true)).1
                    rw [flatB_set] at hrow2
                    have HRW := Lib.hid hrow2
                    have HB := Lib.hid (hblk.far (p := ⟨w.heap.size + 1, t, none⟩) (by simp) (.bool true))
                    have hbel2 := hbel.setCell (p := ⟨w.heap.size + 1, t, none⟩) (Nat.le_succ _) (.bool true)
                    clear hrow hrow2 hblk hxj hin hb hbi
                    go_wp2_with fail
                    go_roundw
                    case rel => exact ⟨j + 1, _, by omega, by go_num, hin3, HRW.out, hbel2, HB.out⟩
                    case measure => simp [intOf]; omega
                · obtain rfl : j = 9 := by omega
                  rw [← H9'.out] at hin
                  have hin3 := hin.row HXI'.out
                  have HRW := Lib.hid hrow
                  have HB := Lib.hid hblk
                  clear hrow hblk hin d1 d2
                  go_wp2_with fail
                  go_roundw
                  case rel => exact ⟨i + 1, bs2, by omega, by go_num, hin3, HRW.out, hbel, HB.out⟩
                  case measure => simp [intOf]; omega
            · obtain rfl : i = accept.length := by omega
              have hout2 := hin.fin HN2.out hout
              have HRW := Lib.hid hrow
              have HB := Lib.hid hblk
              clear hrow hblk hin hout
              go_wp2_with fail
              go_roundw
              case rel => exact ⟨m + 1, bs1, by omega, by go_num, hout2, HRW.out, hbel, HB.out⟩
              case measure => simp [intOf]; omega
        · obtain rfl : m = accept.length := by omega
          have hfin := hout.fin
          have HF := Lib.hid hfin
          have HL := Lib.hid hout.1.len
          have HRW := Lib.hid hrow
          clear hrow hblk hout hfin
          go_wp2_with fail
          go_ret
          exact ⟨_, bs, rfl, (Own.of_row HRW.out HL.out rfl).mono (Nat.le_succ _) (Nat.le_refl _), hbel, HL.out, HF.out⟩
end Go.Proofs.Ytbhmgpclakkgbaa
