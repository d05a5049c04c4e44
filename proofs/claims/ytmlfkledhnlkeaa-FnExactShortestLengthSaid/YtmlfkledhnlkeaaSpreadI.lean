/- The program's spread: breadth first search. -/
import Derived.Test.YtmlfkledhnlkeaaSpreadM
import Derived.Test.YtmlfkledhnlkeaaRepeatI
import Derived.Test.YtmlfkledhnlkeaaQueue
import Derived.Deep.LoopGhost
namespace Go.Proofs.Ytmlfkledhnlkeaa
set_option linter.unusedVariables false
set_option linter.unusedSimpArgs false
open Go.ChangeShapes Go.WideShapes Go.ChangeAt Go.RowKit
attribute [local go_sem] ext_cell ext_frozen ext_lt ext_lt1 ext_lt2 ext_lt3 ltn2 ltn3 ltn13 lts1 lts2 lts3

set_option maxHeartbeats 8000000 in
set_option maxRecDepth 100000 in
theorem spread_any (v lv : Value) (N : Nat) (next : Nat → List Nat) (fs : List Nat) (w : World) (hv : SSE 0 w.heap.size w cN 1 v ((List.range N).map next)) (hl : SlE w cN 1 lv fs) (hN1 : 1 ≤ N) (hN : N ≤ 60) (hfl : fs.length ≤ 60) (hfs : ∀ i ∈ fs, i < N)
    (hnext : ∀ i, i < N → ∀ k ∈ next i, k < N) :
    Calls Try.prog 129 #[v, lv] w fun e w' => ∃ v', e = .returned v' ∧ Own w.heap.size w'.heap.size w' 3 cI 1 v' (spreadR N next fs) ∧ Below w.heap.size w w' := by
  obtain ⟨A5, c5, hv5, hl5, hm5⟩ := hv.shape
  have hlen5 : ((List.range N).map next).length = N := by simp
  rw [hlen5] at hv5 hl5
  subst hv5
  obtain ⟨A6, c6, rfl, hl6, hm6, hC6⟩ := hl.form
  have HV := Lib.hid hv
  have HNX := Lib.hid hnext
  have HFS := Lib.hid hfs
  have HC6 := Lib.hid hC6
  clear hv hnext hlen5 hl hC6 hfs
  obtain ⟨R, hR⟩ : ∃ R, R = spreadR N next fs := ⟨_, rfl⟩
  rw [← hR]
  have HR := Lib.hid hR
  clear hR
  have hb0 : Below w.heap.size w (w.alloc (.cells #[.int .i64 (-1)] 3)) := (Below.refl _ _).alloc (Nat.le_refl _) _
  have hone : SlE (w.alloc (.cells #[.int .i64 (-1)] 3)) cI 1 (.slice (some ⟨w.heap.size, 0, none⟩) 1 1) [-1] := by
    have h := Own.of_row (xs := [(-1 : Int)]) (E := cI) (World.ownsRow_lit (base := 0) (e := 3) (size := 1) w #[.int .i64 (-1)] 1 (Nat.zero_le _) (by decide) rfl) rfl rfl
    have h2 := h.sl cI_len
    simpa [SlE] using h2
  have HONE := Lib.hid hone
  clear hone
  go_enter Try.func129, Try.ntmps129
  go_wp2_with fail
  refine (repeat_any _ (-1) N _ hN1 (by omega) HONE.out).mono ?_
  rintro e w2 ⟨g, rfl, hrow, hb2⟩
  have hgl := hrow.lt g rfl
  simp only [World.size_alloc] at hgl
  have hbel := below_trans hb0 hb2
  have HROW := Lib.hid hrow
  clear hrow hb0 hb2
  go_wp2_with fail
  go_loopw [6, 18] (fun qv jj wr => ∃ j : Nat, j ≤ fs.length ∧ jj = .int .i64 (j : Int) ∧ wr.ownsRow w.heap.size 3 1 (.slice (some ⟨g, 0, none⟩) N N) N ((srcD N (fs.take j)).flatMap cI) ∧
    QRow wr w2.heap.size 3 1 qv (fs.take j).length ((fs.take j).flatMap cN) ∧ Below w.heap.size w wr ∧ w2.heap.size ≤ wr.heap.size) (fun _ jj _ => fs.length - (intOf jj).toNat)
  case atStart =>
    refine ⟨0, Nat.zero_le _, rfl, ?_, QRow.of_own (World.ownsRow_lit w2 #[] 0 (Nat.le_refl _) (by decide) rfl), hbel.alloc hbel.size _, by simp⟩
    exact ownsRow_mono ((ownsRow_below' HROW.out ((Below.refl w2.heap.size w2).alloc (Nat.le_refl _) _) (by omega))) (by simp)
  case round =>
    clear hbel
    obtain ⟨j, hj, rfl, hrow, hq, hbel, hsz⟩ := hrel
    have HROW := Lib.hid hrow
    have HQ := Lib.hid hq
    clear hrow hq
    by_cases hlt : j < fs.length
    · have hki : fs[j]? = some fs[j] := List.getElem?_eq_getElem hlt
      have hkn := HFS.out _ (List.getElem_mem hlt)
      generalize fs[j] = k at hki hkn
      obtain ⟨b6, o6, rfl, hb6, d6⟩ := HC6.out.nat hki
      have d6 := (hbel.cell (p := ⟨b6, o6 + j, none⟩) hb6).trans d6
      have hkc := (World.ownsRow.cellAt HROW.out k (by omega)).trans (flatI_at (getD_of (by rw [srcD_len]; exact hkn)))
      have hkf := World.ownsRow.frozenAt HROW.out k
      have hrow2 := (World.ownsRow.stored HROW.out k (.int .i64 0)).1
      rw [flatI_set, ← srcD_snoc, ← take_snoc hki] at hrow2
      have hq2 := HQ.out.only ((Only.refl g (g + 1) wr).setCell (p := ⟨g, k, none⟩) (.inl ⟨Nat.le_refl _, Nat.lt_succ_self _⟩) (.int .i64 0)) (fun b hb => .inr (by have := (HQ.out.lt b hb).1; omega))
      have hbel2 := hbel.setCell (p := ⟨g, k, none⟩) (show w.heap.size ≤ g by omega) (.int .i64 0)
      have HR2 := Lib.hid hrow2
      have HQ2 := Lib.hid hq2
      have HKI := Lib.hid hki
      have htl : (fs.take j).length ≤ 60 := by rw [List.length_take]; omega
      have hkN : (k : Int) < (N : Int) := by omega
      clear hrow2 hq2 hki
      go_wp2_with (at_builtin; (refine wpList_appendQ1 cN elInt rfl _ _ rfl w2.heap.size _ (fs.take j) k _ 1 wr.heap.size (by rfl) HQ2.out (by rfl) (by simp) rfl rfl (cN_one _) (by omega) (by omega) (by simpa using hsz) ?_); rw [← take_snoc HKI.out]; intro v' w4 hq3 hb3 _ _)
      go_roundw
      case rel => exact ⟨j + 1, by omega, by go_num, ownsRow_below' HR2.out hb3 (by omega), hq3, hbel2.trans (hb3.mono (by omega)), by have := hb3.size; simp at this; omega⟩
      case measure => simp [intOf]; omega
    · obtain rfl : j = fs.length := by omega
      rw [List.take_length] at HROW HQ
      obtain ⟨F, hF⟩ : ∃ F, F = fs.length + N := ⟨_, rfl⟩
      have hF2 : F ≤ 120 := by omega
      have hini := srcD_bfsI HFS.out
      rw [← hF] at hini
      have hRF : bfs next F (srcD N fs) fs = R := by rw [HR.out, spreadR, hF]
      have HINI := Lib.hid hini
      have HRF := Lib.hid hRF
      clear hF hini hRF
      go_wp2_with fail
      go_loopg [6] F (fun k qv wr => ∃ (D : List Int) (q : List Nat), BfsI N F k D q ∧ bfs next k D q = R ∧ wr.ownsRow w.heap.size 3 1 (.slice (some ⟨g, 0, none⟩) N N) N (D.flatMap cI) ∧
        QRow wr w2.heap.size 3 1 qv q.length (q.flatMap cN) ∧ Below w.heap.size w wr ∧ w2.heap.size ≤ wr.heap.size)
      case atStart => exact ⟨_, _, HINI.out, HRF.out, HROW.out, HQ.out, hbel, hsz⟩
      case round =>
        clear HROW HQ hbel hsz
        obtain ⟨D, q, hI, hB, hrow, hq, hbel, hsz⟩ := hrel
        have HI := Lib.hid hI
        have HB := Lib.hid hB
        have HROW := Lib.hid hrow
        have HQ := Lib.hid hq
        clear hI hB hrow hq
        cases q with
        | nil =>
          have hfin : D = R := by rw [← HB.out, bfs_nil]
          obtain ⟨A4, c4, rfl, hc4, hc5⟩ := HQ.out.shape
          have HF := Lib.hid hfin
          have hown : Own w.heap.size wr.heap.size wr 3 cI 1 (.slice (some ⟨g, 0, none⟩) N N) D := Own.of_row HROW.out HI.out.len rfl
          have HO := Lib.hid hown
          clear hfin hown
          simp only [List.length_nil] at *
          go_wp2_with fail
          go_ret
          exact ⟨_, rfl, by rw [← HF.out]; exact HO.out, hbel⟩
        | cons h q =>
          obtain ⟨f, rfl⟩ : ∃ f, gk = f + 1 := ⟨gk - 1, by have := HI.out.fuel; rw [List.length_cons] at this; omega⟩
          obtain ⟨hhN, hh0⟩ := HI.out.queue h (by simp)
          obtain ⟨b5, o5, A7, c7, rfl, -, hb5, d5, hl7, hm7, hI7, -⟩ := HV.out.row (Nat.le_refl _) (i := h) (xs := next h) (by simp [hhN])
          have d5 := (hbel.cell (p := ⟨b5, o5 + h, none⟩) hb5).trans d5
          have hb5w := Nat.lt_of_lt_of_le hb5 hbel.size
          obtain ⟨gq, oq, cq, rfl, hgq1, hgq2, hqc⟩ := HQ.out.cell (by simp)
          have dq := hqc 0 _ rfl
          simp only [Nat.add_zero] at dq
          have HI7 := Lib.hid hI7
          have hhx : (h : Int) < (N : Int) := by omega
          clear hqc hI7
          have hlc : (h :: q).length = q.length + 1 := rfl
          rw [hlc] at HQ ⊢
          clear hlc
          go_wp2_with fail
          have htop := HI.out.top h
          have hpop := HI.out.pop
          obtain ⟨dd, hdd⟩ : ∃ dd, dd = D.getD h 0 := ⟨_, rfl⟩
          rw [← hdd] at htop hh0
          have HDD := Lib.hid hdd
          have HPOP := Lib.hid hpop
          clear hdd hpop
          go_loopw [6, 42] (fun qv jj wr => ∃ (j : Nat) (D' : List Int) (q' : List Nat), j ≤ (next h).length ∧ jj = .int .i64 (j : Int) ∧ BfsI N F f D' q' ∧ D'.getD h 0 = dd ∧ relax (dd + 1) ((next h).drop j) D' q' = relax (dd + 1) (next h) D q ∧
            wr.ownsRow w.heap.size 3 1 (.slice (some ⟨g, 0, none⟩) N N) N (D'.flatMap cI) ∧ QRow wr w2.heap.size 3 1 qv (q'.length + 1) ((h :: q').flatMap cN) ∧ Below w.heap.size w wr ∧ w2.heap.size ≤ wr.heap.size) (fun _ jj _ => (next h).length - (intOf jj).toNat)
          case atStart => exact ⟨0, D, q, Nat.zero_le _, rfl, HPOP.out, HDD.out.symm, by rw [List.drop_zero], HROW.out, HQ.out, hbel, hsz⟩
          case round =>
            clear d5 dq hb5w hgq1 hgq2 HROW HQ hbel hsz
            obtain ⟨j, D', q', hj, rfl, hI2, hDh, hrx, hrow, hq, hbel, hsz⟩ := hrel
            have HI2 := Lib.hid hI2
            have HDH := Lib.hid hDh
            have HRX := Lib.hid hrx
            have HROW := Lib.hid hrow
            have HQ := Lib.hid hq
            clear hI2 hDh hrx hrow hq
            by_cases hlt : j < (next h).length
            · have hki : (next h)[j]? = some (next h)[j] := List.getElem?_eq_getElem hlt
              have hdr : (next h).drop j = (next h)[j] :: (next h).drop (j + 1) := List.drop_eq_getElem_cons hlt
              have hkn := HNX.out h hhN _ (List.getElem_mem hlt)
              generalize (next h)[j] = k at hki hkn hdr
              obtain ⟨b7, o7, rfl, -, hb7, d7⟩ := HI7.out.nat hki
              have d7 := (hbel.cell (p := ⟨b7, o7 + j, none⟩) hb7).trans d7
              have hb7w := Nat.lt_of_lt_of_le hb7 hbel.size
              have hkl : k < D'.length := by rw [HI2.out.len]; exact hkn
              have hhl : h < D'.length := by rw [HI2.out.len]; exact hhN
              have hkc := (World.ownsRow.cellAt HROW.out k (by omega)).trans (flatI_at (getD_of hkl))
              have hkf := World.ownsRow.frozenAt HROW.out k
              have hkN : (k : Int) < (N : Int) := by omega
              have hgw := (HROW.out.lt g rfl).2
              have HDR := Lib.hid hdr
              clear hki hdr
              by_cases hneg : D'.getD k 0 < 0
              · have hhc := (World.ownsRow.cellAt HROW.out h (by omega)).trans (flatI_at (getD_of hhl))
                rw [HDH.out] at hhc
                have hnew := HI2.out.new hkn hneg (d := dd + 1) (by omega) (by omega)
                have hrow2 := (World.ownsRow.stored HROW.out k (.int .i64 (dd + 1))).1
                rw [flatI_set] at hrow2
                have hq2 := HQ.out.only ((Only.refl g (g + 1) wr).setCell (p := ⟨g, k, none⟩) (.inl ⟨Nat.le_refl _, Nat.lt_succ_self _⟩) (.int .i64 (dd + 1))) (fun b hb => .inr (by have := (HQ.out.lt b hb).1; omega))
                have hbel2 := hbel.setCell (p := ⟨g, k, none⟩) (show w.heap.size ≤ g by omega) (.int .i64 (dd + 1))
                obtain ⟨gq, oq, cq, rfl, hgq1, hgq2, hqc⟩ := HQ.out.cell (by simp)
                have dq := hqc 0 _ rfl
                simp only [Nat.add_zero] at dq
                have hrx2 : relax (dd + 1) ((next h).drop (j + 1)) (D'.set k (dd + 1)) (q' ++ [k]) = relax (dd + 1) (next h) D q := by rw [← HRX.out, HDR.out, relax_mid _ _ _ _ _ hneg]
                have hDh2 : (D'.set k (dd + 1)).getD h 0 = dd := by
                  rw [getD_set' hkl, if_neg (by intro e; subst e; rw [HDH.out] at hneg; omega)]; exact HDH.out
                have hql : q'.length ≤ 200 := by have := HI2.out.fuel; omega
                have HNEW := Lib.hid hnew
                have HR2 := Lib.hid hrow2
                have HQ2 := Lib.hid hq2
                have HRX2 := Lib.hid hrx2
                have HDH2 := Lib.hid hDh2
                generalize D'.getD k 0 = x at hkc hneg
                have hgq9 : g ≠ gq := by omega
                clear hnew hrow2 hq2 hrx2 hDh2 hqc
                go_wp2_with (at_builtin; (refine wpList_appendQ1 cN elInt rfl _ _ rfl w2.heap.size (.slice (some ⟨gq, oq, none⟩) (q'.length + 1) cq) (h :: q') k _ 1 wr.heap.size (by rfl) HQ2.out (by rfl) (by simp) rfl rfl (cN_one _) (by simp only [List.length_cons]; omega) (by omega) (by simpa using hsz) ?_); intro v' w4 hq3 hb3 _ _)
                go_roundw
                case rel => exact ⟨j + 1, _, _, by omega, by go_num, HNEW.out, HDH2.out, HRX2.out, ownsRow_below' HR2.out hb3 (by omega), by simpa using hq3, hbel2.trans (hb3.mono (by omega)), by have := hb3.size; simp at this; omega⟩
                case measure => simp [intOf]; omega
              · have hrx2 : relax (dd + 1) ((next h).drop (j + 1)) D' q' = relax (dd + 1) (next h) D q := by rw [← HRX.out, HDR.out, relax_old _ _ _ _ _ hneg]
                have HRX2 := Lib.hid hrx2
                generalize D'.getD k 0 = x at hkc hneg
                clear hrx2
                go_wp2_with fail
                go_roundw
                case rel => exact ⟨j + 1, _, _, by omega, by go_num, HI2.out, HDH.out, HRX2.out, HROW.out, HQ.out, hbel, hsz⟩
                case measure => simp [intOf]; omega
            · obtain rfl : j = (next h).length := by omega
              have hrx2 := HRX.out
              rw [List.drop_length, relax] at hrx2
              have hBF : bfs next f D' q' = R := by
                rw [← HB.out, bfs, ← HDD.out, ← hrx2]
              obtain ⟨A9, c9, h9, hc8, hc9⟩ := HQ.out.shape
              obtain ⟨g5, o5, c5, rfl, -, -, -⟩ := HQ.out.cell (by omega)
              obtain rfl : c5 = c9 := by injection h9
              have htail := HQ.out.tail rfl
              simp only [List.flatMap_cons, cN, List.cons_append, List.nil_append, List.drop_succ_cons, List.drop_zero] at htail
              unfold maxLen at hc9
              have HBF := Lib.hid hBF
              clear hrx2 hBF h9
              by_cases hc1 : c5 = 1
              · subst hc1
                obtain rfl : q' = [] := List.eq_nil_of_length_eq_zero (by omega)
                rw [if_pos rfl] at htail
                simp only [List.length_nil] at *
                have HT := Lib.hid htail
                clear htail
                go_wp2_with fail
                go_roundg f
                case measure => exact Nat.lt_succ_self _
                case rel => exact ⟨_, _, HI2.out, HBF.out, HROW.out, HT.out, hbel, hsz⟩
              · rw [if_neg hc1] at htail
                have HT := Lib.hid htail
                clear htail
                go_wp2_with fail
                go_roundg f
                case measure => exact Nat.lt_succ_self _
                case rel => exact ⟨_, _, HI2.out, HBF.out, HROW.out, HT.out, hbel, hsz⟩
end Go.Proofs.Ytmlfkledhnlkeaa
