/- Parts of the proof, joined into one text: SpreadI, GoalI, DistI, ShortI, CntI, BackM, BackS. -/
import Derived.Test.YtpbfdmfkmbdpkaaGreatOnlyFIIKIIGF
import Derived.Test.YtpbfdmfkmbdpkaaGreatOnlyBBCIAMIP
import Derived.Deep.LoopGhost
import Derived.Test.YtpbfdmfkmbdpkaaGreatOnlyJFBNHFPK
import Derived.Test.YtpbfdmfkmbdpkaaGreatOnlyIPOAJNAI
import Derived.Test.YtpbfdmfkmbdpkaaGreatOnlyBJIAJKDG
import Derived.Test.YtpbfdmfkmbdpkaaGreatOnlyOFHCLODM
import Derived.Test.YtpbfdmfkmbdpkaaGreatOnlyIHEJOAKK
namespace Go.Proofs.YtpbfdmfkmbdpkaaGreat
set_option linter.unusedVariables false
set_option linter.unusedSimpArgs false
open Go.ChangeShapes Go.WideShapes Go.ChangeAt Go.RowKit
attribute [local go_sem] ext_cell ext_frozen ext_lt ext_lt1 ext_lt2 ext_lt3 ltn2 ltn3 ltn13 lts1 lts2 lts3
set_option maxHeartbeats 8000000 in
set_option maxRecDepth 100000 in
theorem spread_any (v lv : Value) (N : Nat) (next : Nat → List Nat) (fs : List Nat) (w : World) (hv : SSE 0 w.heap.size w cN 1 v ((List.range N).map next)) (hl : SlE w cN 1 lv fs) (hN1 : 1 ≤ N) (hN : N ≤ 60) (hfl : fs.length ≤ 60) (hfs : ∀ i ∈ fs, i < N)
    (hnext : ∀ i, i < N → ∀ k ∈ next i, k < N) :
    Calls Tryz.prog 116 #[v, lv] w fun e w' => ∃ v', e = .returned v' ∧ Own w.heap.size w'.heap.size w' 3 cI 1 v' (spreadR N next fs) ∧ Below w.heap.size w w' := by
  obtain ⟨A5, c5, hv5, hl5, hm5⟩ := hv.shape
  have hlen5 : ((List.range N).map next).length = N := by simp
  rw [hlen5] at hv5 hl5
  subst hv5
  obtain ⟨A6, c6, rfl, hl6, hm6, hC6⟩ := hl.form
  have HV := Lib.hid hv
  have HNX := Lib.hid hnext
  have HFS := Lib.hid hfs
  have HC6 := Lib.hid hC6
  clear hv hnext hlen5 hl hC6 hfs
  obtain ⟨R, hR⟩ : ∃ R, R = spreadR N next fs := ⟨_, rfl⟩
  rw [← hR]
  have HR := Lib.hid hR
  clear hR
  have hb0 : Below w.heap.size w (w.alloc (.cells #[.int .i64 (-1)] 3)) := (Below.refl _ _).alloc (Nat.le_refl _) _
  have hone : SlE (w.alloc (.cells #[.int .i64 (-1)] 3)) cI 1 (.slice (some ⟨w.heap.size, 0, none⟩) 1 1) [-1] := by
    have h := Own.of_row (xs := [(-1 : Int)]) (E := cI) (World.ownsRow_lit (base := 0) (e := 3) (size := 1) w #[.int .i64 (-1)] 1 (Nat.zero_le _) (by decide) rfl) rfl rfl
    have h2 := h.sl cI_len
    simpa [SlE] using h2
  have HONE := Lib.hid hone
  clear hone
  go_enter Tryz.func116, Tryz.ntmps116
  go_wp2_with fail
  refine (repeat_any _ (-1) N _ hN1 (by omega) HONE.out).mono ?_
  rintro e w2 ⟨g, rfl, hrow, hb2⟩
  have hgl := hrow.lt g rfl
  simp only [World.size_alloc] at hgl
  have hbel := below_trans hb0 hb2
  have HROW := Lib.hid hrow
  clear hrow hb0 hb2
  go_wp2_with fail
  go_loopw [6, 18] (fun qv jj wr => ∃ j : Nat, j ≤ fs.length ∧ jj = .int .i64 (j : Int) ∧ wr.ownsRow w.heap.size 3 1 (.slice (some ⟨g, 0, none⟩) N N) N ((srcD N (fs.take j)).flatMap cI) ∧
    QRow wr w2.heap.size 3 1 qv (fs.take j).length ((fs.take j).flatMap cN) ∧ Below w.heap.size w wr ∧ w2.heap.size ≤ wr.heap.size) (fun _ jj _ => fs.length - (intOf jj).toNat)
  case atStart =>
    refine ⟨0, Nat.zero_le _, rfl, ?_, QRow.of_own (World.ownsRow_lit w2 #[] 0 (Nat.le_refl _) (by decide) rfl), hbel.alloc hbel.size _, by simp⟩
    exact ownsRow_mono ((ownsRow_below' HROW.out ((Below.refl w2.heap.size w2).alloc (Nat.le_refl _) _) (by omega))) (by simp)
  case round =>
    clear hbel
    obtain ⟨j, hj, rfl, hrow, hq, hbel, hsz⟩ := hrel
    have HROW := Lib.hid hrow
    have HQ := Lib.hid hq
    clear hrow hq
    by_cases hlt : j < fs.length
    · have hki : fs[j]? = some fs[j] := List.getElem?_eq_getElem hlt
      have hkn := HFS.out _ (List.getElem_mem hlt)
      generalize fs[j] = k at hki hkn
      obtain ⟨b6, o6, rfl, hb6, d6⟩ := HC6.out.nat hki
      have d6 := (hbel.cell (p := ⟨b6, o6 + j, none⟩) hb6).trans d6
      have hkc := (World.ownsRow.cellAt HROW.out k (by omega)).trans (flatI_at (getD_of (by rw [srcD_len]; exact hkn)))
      have hkf := World.ownsRow.frozenAt HROW.out k
      have hrow2 := (World.ownsRow.stored HROW.out k (.int .i64 0)).1
      rw [flatI_set, ← srcD_snoc, ← take_snoc hki] at hrow2
      have hq2 := HQ.out.only ((Only.refl g (g + 1) wr).setCell (p := ⟨g, k, none⟩) (.inl ⟨Nat.le_refl _, Nat.lt_succ_self _⟩) (.int .i64 0)) (fun b hb => .inr (by have := (HQ.out.lt b hb).1; omega))
      have hbel2 := hbel.setCell (p := ⟨g, k, none⟩) (show w.heap.size ≤ g by omega) (.int .i64 0)
      have HR2 := Lib.hid hrow2
      have HQ2 := Lib.hid hq2
      have HKI := Lib.hid hki
      have htl : (fs.take j).length ≤ 60 := by rw [List.length_take]; omega
      have hkN : (k : Int) < (N : Int) := by omega
      clear hrow2 hq2 hki
      go_wp2_with (at_builtin; (refine wpList_appendQ1 cN elInt rfl _ _ rfl w2.heap.size _ (fs.take j) k _ 1 wr.heap.size (by rfl) HQ2.out (by rfl) (by simp) rfl rfl (cN_one _) (by omega) (by omega) (by simpa using hsz) ?_); rw [← take_snoc HKI.out]; intro v' w4 hq3 hb3 _ _)
      go_roundw
      case rel => exact ⟨j + 1, by omega, by go_num, ownsRow_below' HR2.out hb3 (by omega), hq3, hbel2.trans (hb3.mono (by omega)), by have := hb3.size; simp at this; omega⟩
      case measure => simp [intOf]; omega
    · obtain rfl : j = fs.length := by omega
      rw [List.take_length] at HROW HQ
      obtain ⟨F, hF⟩ : ∃ F, F = fs.length + N := ⟨_, rfl⟩
      have hF2 : F ≤ 120 := by omega
      have hini := srcD_bfsI HFS.out
      rw [← hF] at hini
      have hRF : bfs next F (srcD N fs) fs = R := by rw [HR.out, spreadR, hF]
      have HINI := Lib.hid hini
      have HRF := Lib.hid hRF
      clear hF hini hRF
      go_wp2_with fail
      go_loopg [6] F (fun k qv wr => ∃ (D : List Int) (q : List Nat), BfsI N F k D q ∧ bfs next k D q = R ∧ wr.ownsRow w.heap.size 3 1 (.slice (some ⟨g, 0, none⟩) N N) N (D.flatMap cI) ∧
        QRow wr w2.heap.size 3 1 qv q.length (q.flatMap cN) ∧ Below w.heap.size w wr ∧ w2.heap.size ≤ wr.heap.size)
      case atStart => exact ⟨_, _, HINI.out, HRF.out, HROW.out, HQ.out, hbel, hsz⟩
      case round =>
        clear HROW HQ hbel hsz
        obtain ⟨D, q, hI, hB, hrow, hq, hbel, hsz⟩ := hrel
        have HI := Lib.hid hI
        have HB := Lib.hid hB
        have HROW := Lib.hid hrow
        have HQ := Lib.hid hq
        clear hI hB hrow hq
        cases q with
        | nil =>
          have hfin : D = R := by rw [← HB.out, bfs_nil]
          obtain ⟨A4, c4, rfl, hc4, hc5⟩ := HQ.out.shape
          have HF := Lib.hid hfin
          have hown : Own w.heap.size wr.heap.size wr 3 cI 1 (.slice (some ⟨g, 0, none⟩) N N) D := Own.of_row HROW.out HI.out.len rfl
          have HO := Lib.hid hown
          clear hfin hown
          simp only [List.length_nil] at *
          go_wp2_with fail
          go_ret
          exact ⟨_, rfl, by rw [← HF.out]; exact HO.out, hbel⟩
        | cons h q =>
          obtain ⟨f, rfl⟩ : ∃ f, gk = f + 1 := ⟨gk - 1, by have := HI.out.fuel; rw [List.length_cons] at this; omega⟩
          obtain ⟨hhN, hh0⟩ := HI.out.queue h (by simp)
          obtain ⟨b5, o5, A7, c7, rfl, -, hb5, d5, hl7, hm7, hI7, -⟩ := HV.out.row (Nat.le_refl _) (i := h) (xs := next h) (by simp [hhN])
          have d5 := (hbel.cell (p := ⟨b5, o5 + h, none⟩) hb5).trans d5
          have hb5w := Nat.lt_of_lt_of_le hb5 hbel.size
          obtain ⟨gq, oq, cq, rfl, hgq1, hgq2, hqc⟩ := HQ.out.cell (by simp)
          have dq := hqc 0 _ rfl
          simp only [Nat.add_zero] at dq
          have HI7 := Lib.hid hI7
          have hhx : (h : Int) < (N : Int) := by omega
          clear hqc hI7
          have hlc : (h :: q).length = q.length + 1 := rfl
          rw [hlc] at HQ ⊢
          clear hlc
          go_wp2_with fail
          have htop := HI.out.top h
          have hpop := HI.out.pop
          obtain ⟨dd, hdd⟩ : ∃ dd, dd = D.getD h 0 := ⟨_, rfl⟩
          rw [← hdd] at htop hh0
          have HDD := Lib.hid hdd
          have HPOP := Lib.hid hpop
          clear hdd hpop
          go_loopw [6, 42] (fun qv jj wr => ∃ (j : Nat) (D' : List Int) (q' : List Nat), j ≤ (next h).length ∧ jj = .int .i64 (j : Int) ∧ BfsI N F f D' q' ∧ D'.getD h 0 = dd ∧ relax (dd + 1) ((next h).drop j) D' q' = relax (dd + 1) (next h) D q ∧
            wr.ownsRow w.heap.size 3 1 (.slice (some ⟨g, 0, none⟩) N N) N (D'.flatMap cI) ∧ QRow wr w2.heap.size 3 1 qv (q'.length + 1) ((h :: q').flatMap cN) ∧ Below w.heap.size w wr ∧ w2.heap.size ≤ wr.heap.size) (fun _ jj _ => (next h).length - (intOf jj).toNat)
          case atStart => exact ⟨0, D, q, Nat.zero_le _, rfl, HPOP.out, HDD.out.symm, by rw [List.drop_zero], HROW.out, HQ.out, hbel, hsz⟩
          case round =>
            clear d5 dq hb5w hgq1 hgq2 HROW HQ hbel hsz
            obtain ⟨j, D', q', hj, rfl, hI2, hDh, hrx, hrow, hq, hbel, hsz⟩ := hrel
            have HI2 := Lib.hid hI2
            have HDH := Lib.hid hDh
            have HRX := Lib.hid hrx
            have HROW := Lib.hid hrow
            have HQ := Lib.hid hq
            clear hI2 hDh hrx hrow hq
            by_cases hlt : j < (next h).length
            · have hki : (next h)[j]? = some (next h)[j] := List.getElem?_eq_getElem hlt
              have hdr : (next h).drop j = (next h)[j] :: (next h).drop (j + 1) := List.drop_eq_getElem_cons hlt
              have hkn := HNX.out h hhN _ (List.getElem_mem hlt)
              generalize (next h)[j] = k at hki hkn hdr
              obtain ⟨b7, o7, rfl, -, hb7, d7⟩ := HI7.out.nat hki
              have d7 := (hbel.cell (p := ⟨b7, o7 + j, none⟩) hb7).trans d7
              have hb7w := Nat.lt_of_lt_of_le hb7 hbel.size
              have hkl : k < D'.length := by rw [HI2.out.len]; exact hkn
              have hhl : h < D'.length := by rw [HI2.out.len]; exact hhN
              have hkc := (World.ownsRow.cellAt HROW.out k (by omega)).trans (flatI_at (getD_of hkl))
              have hkf := World.ownsRow.frozenAt HROW.out k
              have hkN : (k : Int) < (N : Int) := by omega
              have hgw := (HROW.out.lt g rfl).2
              have HDR := Lib.hid hdr
              clear hki hdr
              by_cases hneg : D'.getD k 0 < 0
              · have hhc := (World.ownsRow.cellAt HROW.out h (by omega)).trans (flatI_at (getD_of hhl))
                rw [HDH.out] at hhc
                have hnew := HI2.out.new hkn hneg (d := dd + 1) (by omega) (by omega)
                have hrow2 := (World.ownsRow.stored HROW.out k (.int .i64 (dd + 1))).1
                rw [flatI_set] at hrow2
                have hq2 := HQ.out.only ((Only.refl g (g + 1) wr).setCell (p := ⟨g, k, none⟩) (.inl ⟨Nat.le_refl _, Nat.lt_succ_self _⟩) (.int .i64 (dd + 1))) (fun b hb => .inr (by have := (HQ.out.lt b hb).1; omega))
                have hbel2 := hbel.setCell (p := ⟨g, k, none⟩) (show w.heap.size ≤ g by omega) (.int .i64 (dd + 1))
                obtain ⟨gq, oq, cq, rfl, hgq1, hgq2, hqc⟩ := HQ.out.cell (by simp)
                have dq := hqc 0 _ rfl
                simp only [Nat.add_zero] at dq
                have hrx2 : relax (dd + 1) ((next h).drop (j + 1)) (D'.set k (dd + 1)) (q' ++ [k]) = relax (dd + 1) (next h) D q := by rw [← HRX.out, HDR.out, relax_mid _ _ _ _ _ hneg]
                have hDh2 : (D'.set k (dd + 1)).getD h 0 = dd := by
                  rw [getD_set' hkl, if_neg (by intro e; subst e; rw [HDH.out] at hneg; omega)]; exact HDH.out
                have hql : q'.length ≤ 200 := by have := HI2.out.fuel; omega
                have HNEW := Lib.hid hnew
                have HR2 := Lib.hid hrow2
                have HQ2 := Lib.hid hq2
                have HRX2 := Lib.hid hrx2
                have HDH2 := Lib.hid hDh2
                generalize D'.getD k 0 = x at hkc hneg
                have hgq9 : g ≠ gq := by omega
                clear hnew hrow2 hq2 hrx2 hDh2 hqc
                go_wp2_with (at_builtin; (refine wpList_appendQ1 cN elInt rfl _ _ rfl w2.heap.size (.slice (some ⟨gq, oq, none⟩) (q'.length + 1) cq) (h :: q') k _ 1 wr.heap.size (by rfl) HQ2.out (by rfl) (by simp) rfl rfl (cN_one _) (by simp only [List.length_cons]; omega) (by omega) (by simpa using hsz) ?_); intro v' w4 hq3 hb3 _ _)
                go_roundw
                case rel => exact ⟨j + 1, _, _, by omega, by go_num, HNEW.out, HDH2.out, HRX2.out, ownsRow_below' HR2.out hb3 (by omega), by simpa using hq3, hbel2.trans (hb3.mono (by omega)), by have := hb3.size; simp at this; omega⟩
                case measure => simp [intOf]; omega
              · have hrx2 : relax (dd + 1) ((next h).drop (j + 1)) D' q' = relax (dd + 1) (next h) D q := by rw [← HRX.out, HDR.out, relax_old _ _ _ _ _ hneg]
                have HRX2 := Lib.hid hrx2
                generalize D'.getD k 0 = x at hkc hneg
                clear hrx2
                go_wp2_with fail
                go_roundw
                case rel => exact ⟨j + 1, _, _, by omega, by go_num, HI2.out, HDH.out, HRX2.out, HROW.out, HQ.out, hbel, hsz⟩
                case measure => simp [intOf]; omega
            · obtain rfl : j = (next h).length := by omega
              have hrx2 := HRX.out
              rw [List.drop_length, relax] at hrx2
              have hBF : bfs next f D' q' = R := by
                rw [← HB.out, bfs, ← HDD.out, ← hrx2]
              obtain ⟨A9, c9, h9, hc8, hc9⟩ := HQ.out.shape
              obtain ⟨g5, o5, c5, rfl, -, -, -⟩ := HQ.out.cell (by omega)
              obtain rfl : c5 = c9 := by injection h9
              have htail := HQ.out.tail rfl
              simp only [List.flatMap_cons, cN, List.cons_append, List.nil_append, List.drop_succ_cons, List.drop_zero] at htail
              unfold maxLen at hc9
              have HBF := Lib.hid hBF
              clear hrx2 hBF h9
              by_cases hc1 : c5 = 1
              · subst hc1
                obtain rfl : q' = [] := List.eq_nil_of_length_eq_zero (by omega)
                rw [if_pos rfl] at htail
                simp only [List.length_nil] at *
                have HT := Lib.hid htail
                clear htail
                go_wp2_with fail
                go_roundg f
                case measure => exact Nat.lt_succ_self _
                case rel => exact ⟨_, _, HI2.out, HBF.out, HROW.out, HT.out, hbel, hsz⟩
              · rw [if_neg hc1] at htail
                have HT := Lib.hid htail
                clear htail
                go_wp2_with fail
                go_roundg f
                case measure => exact Nat.lt_succ_self _
                case rel => exact ⟨_, _, HI2.out, HBF.out, HROW.out, HT.out, hbel, hsz⟩
end Go.Proofs.YtpbfdmfkmbdpkaaGreat
namespace Go.Proofs.YtpbfdmfkmbdpkaaGreat
set_option linter.unusedVariables false
set_option linter.unusedSimpArgs false
open Go.ChangeShapes Go.WideShapes Go.ChangeAt Go.RowKit
attribute [local go_sem] ext_cell ext_frozen ext_lt ext_lt1 ext_lt2 ext_lt3 ltn2 ltn3 ltn13 lts1 lts2 lts3
set_option maxHeartbeats 4000000 in
theorem goals_any (vg va : Value) (g : Gr) (a : Au) (y : Nat) (w : World) (hgv : GrV 0 w.heap.size w vg g) (hav : AuV 0 w.heap.size w va a) (hg : GrOk g) (ha : auOk a = true) (hy : y < g.vals.length) :
    Calls Tryz.prog 128 #[vg, va, .int .i64 (y : Int)] w fun e w' => ∃ v', e = .returned v' ∧ Own w.heap.size w'.heap.size w' 3 cN 1 v' (goalsL g a y) ∧ Below w.heap.size w w' := by
  have hav0 := hav
  obtain ⟨A1, c1, A2, c2, rfl, hl1, hm1, -, -, hC1, -⟩ := hgv.form
  obtain ⟨A3, c3, A4, c4, rfl, hl3, hm3, hl4, hm4, -⟩ := hav.form ha
  have hn5 := hg.n5
  have hn12 := (auOk_iff.1 ha).1.2
  have hxi : g.vals[y]? = some g.vals[y] := List.getElem?_eq_getElem hy
  have hvr := hg.vals _ (List.getElem_mem hy)
  generalize g.vals[y] = vx at hxi hvr
  obtain ⟨vx, rfl⟩ := Int.eq_ofNat_of_zero_le hvr.1
  have hva := valAt_of hxi
  rw [Int.toNat_natCast] at hva
  obtain ⟨b1, o1, rfl, hb1, d1⟩ := hC1.int hxi
  have HAO := Lib.hid ha
  have HAV := Lib.hid hav0
  have HVA := Lib.hid hva
  have hb0 : Below w.heap.size w ((w.alloc (.cells #[.slice (some ⟨b1, o1, none⟩) g.vals.length c1, .slice A2 g.edges.length c2] 36)).alloc (.cells #[.int .i64 a.start, .slice A3 a.accept.length c3, .slice A4 a.accept.length c4] 38)) := ((Below.refl _ _).alloc (Nat.le_refl _) _).alloc (by simp) _
  have hyn : y * a.accept.length + a.accept.length ≤ 60 := by have := Nat.mul_le_mul (show y + 1 ≤ 5 by omega) hn12; rw [Nat.succ_mul] at this; omega
  obtain ⟨yn, hyn2⟩ : ∃ yn, yn = y * a.accept.length := ⟨_, rfl⟩
  rw [← hyn2] at hyn
  have q1 : IntKind.i64.wrap ((y : Int) * (a.accept.length : Int)) = (yn : Int) := by rw [IntWalk.i64_in _ (by rw [← Int.natCast_mul, ← hyn2]; omega), hyn2, Int.natCast_mul]
  have q1' : (y : Int) * (a.accept.length : Int) = (yn : Int) := by rw [hyn2, Int.natCast_mul]
  have q5 : IntKind.i64.wrap (yn : Int) = (yn : Int) := IntWalk.i64_in _ (by omega)
  have HYN := Lib.hid hyn2
  clear hgv hav ha hg hav0 hva hxi hC1 hyn2
  go_enter Tryz.func128, Tryz.ntmps128
  go_wp2_with fail
  obtain ⟨W0, hW0⟩ : ∃ W0, W0 = ((w.alloc (.cells #[.slice (some ⟨b1, o1, none⟩) g.vals.length c1, .slice A2 g.edges.length c2] 36)).alloc (.cells #[.int .i64 a.start, .slice A3 a.accept.length c3, .slice A4 a.accept.length c4] 38)) := ⟨_, rfl⟩
  rw [← hW0] at hb0 ⊢
  have x0 : W0.cell? ⟨w.heap.size, 0, none⟩ = some (.slice (some ⟨b1, o1, none⟩) g.vals.length c1) := by rw [hW0]; simp
  have y0 : W0.cell? ⟨w.heap.size + 1, 0, none⟩ = some (.int .i64 a.start) := by rw [hW0]; simp
  have y1 : W0.cell? ⟨w.heap.size + 1, 1, none⟩ = some (.slice A3 a.accept.length c3) := by rw [hW0]; simp
  have y2 : W0.cell? ⟨w.heap.size + 1, 2, none⟩ = some (.slice A4 a.accept.length c4) := by rw [hW0]; simp
  have d1 := kcell hb0 d1
  have l0 : w.heap.size + 1 < W0.heap.size := by rw [hW0]; simp
  have hs0 : w.heap.size + 1 + 1 = W0.heap.size := by rw [hW0]; simp
  rw [hs0]
  clear hW0 hs0
  go_loopw [8, 9] (fun out ii wr => ∃ i : Nat, i ≤ a.accept.length ∧ ii = .int .i64 (i : Int) ∧ wr.ownsRow W0.heap.size 3 1 out (goalsTo g a y i).length ((goalsTo g a y i).flatMap cN) ∧ Below W0.heap.size W0 wr) (fun _ ii _ => a.accept.length - (intOf ii).toNat)
  case atStart => exact ⟨0, Nat.zero_le _, rfl, World.ownsRow_lit W0 #[] 0 (Nat.le_refl _) (by decide) rfl, (Below.refl _ _).alloc (Nat.le_refl _) _⟩
  case round =>
    obtain ⟨i, hi, rfl, hrow, hbel⟩ := hrel
    have HROW := Lib.hid hrow
    have hgl := goalsTo_len g a y i
    clear hrow
    by_cases hlt : i < a.accept.length
    · have x0 := kcell hbel x0
      have y0 := kcell hbel y0
      have y1 := kcell hbel y1
      have y2 := kcell hbel y2
      have d1 := kcell hbel d1
      have hsz := hbel.size
      have hsz0 := hb0.size
      have k0 : w.heap.size < wr.heap.size := by omega
      have k1 : w.heap.size + 1 < wr.heap.size := by omega
      have k2 : b1 < wr.heap.size := by omega
      have hbw := below_trans hb0 hbel
      have s1 := shl_bit (s := i) (by omega)
      have s2 := shl_bit2 (s := i) (by omega)
      have s3 := shl_bit3 (s := i) (by omega)
      have q2 : IntKind.i64.wrap ((yn : Int) + (i : Int)) = (yn : Int) + (i : Int) := IntWalk.i64_in _ (by omega)
      have hyy : (y : Int) < (g.vals.length : Int) := by omega
      cases hb : accC a vx i with
      | true =>
        have hacc : ∀ W, Below w.heap.size w W → Calls Tryz.prog 93 #[.agg #[.int .i64 a.start, .slice A3 a.accept.length c3, .slice A4 a.accept.length c4], .int .i64 (bit i : Int), .int .i64 (vx : Int)] W fun e w' => e = .returned (.bool true) ∧ Below W.heap.size W w' := fun W hW => by
          have h := acceptsAt_any _ a (bit i) vx W (HAV.out.keep hW) HAO.out (bit_lt hlt) (by omega)
          rwa [acc_one _ _ (show i < 12 by omega), hb] at h
        have HACC := Lib.hid hacc
        have hgt := goalsTo_yes (g := g) (a := a) (y := y) (i := i) (by rw [HVA.out]; exact hb)
        rw [← HYN.out] at hgt
        have HGT := Lib.hid hgt
        clear hacc hb hgt
        go_wp2_with fail
        refine wp_region_ext_lit (by kernel_rfl) (by kernel_rfl) ?_
        repeat (go_big_quiet_step ((go_at_call 93; exact Calls.ext_of (HACC.out _ (below_trans hbw (ext_below _ _))))))
        refine wpQuiet_nil ?_
        intro _ hw'
        obtain ⟨u2, hw''⟩ := hw'
        subst hw''
        have hbx := ext_below wr u2
        have HROX := Lib.hid (ownsRow_below HROW.out hbx (Nat.le_refl _))
        have hszx := hbx.size
        go_wp2_with (at_builtin; (refine wpList_append1 cN elInt rfl _ _ rfl W0.heap.size _ (goalsTo g a y i) (yn + i) _ 1 _ (by rfl) HROX.out (by rfl) rfl rfl rfl (cN_one _) (by omega) (by omega) (by omega) ?_); rw [← HGT.out]; intro v' w4 hrow' hb4 _ _)
        go_roundw
        case rel => exact ⟨i + 1, by omega, by go_num, hrow', (hbel.trans (hbx.mono hsz)).trans hb4⟩
        case measure => simp [intOf]; omega
      | false =>
        have hacc : ∀ W, Below w.heap.size w W → Calls Tryz.prog 93 #[.agg #[.int .i64 a.start, .slice A3 a.accept.length c3, .slice A4 a.accept.length c4], .int .i64 (bit i : Int), .int .i64 (vx : Int)] W fun e w' => e = .returned (.bool false) ∧ Below W.heap.size W w' := fun W hW => by
          have h := acceptsAt_any _ a (bit i) vx W (HAV.out.keep hW) HAO.out (bit_lt hlt) (by omega)
          rwa [acc_one _ _ (show i < 12 by omega), hb] at h
        have HACC := Lib.hid hacc
        have hgt := goalsTo_no (g := g) (a := a) (y := y) (i := i) (by rw [HVA.out]; exact hb)
        have HGT := Lib.hid hgt
        clear hacc hb hgt
        go_wp2_with fail
        refine wp_region_ext_lit (by kernel_rfl) (by kernel_rfl) ?_
        repeat (go_big_quiet_step ((go_at_call 93; exact Calls.ext_of (HACC.out _ (below_trans hbw (ext_below _ _))))))
        refine wpQuiet_nil ?_
        intro _ hw'
        obtain ⟨u2, hw''⟩ := hw'
        subst hw''
        have hbx := ext_below wr u2
        have HROX := Lib.hid (ownsRow_below HROW.out hbx (Nat.le_refl _))
        go_wp2_with fail
        go_roundw
        case rel => exact ⟨i + 1, by omega, by go_num, by rw [HGT.out]; exact HROX.out, hbel.trans (hbx.mono hsz)⟩
        case measure => simp [intOf]; omega
    · obtain rfl : i = a.accept.length := by omega
      have hown := Own.of_row (xs := goalsTo g a y a.accept.length) (ownsRow_mono HROW.out hb0.size) rfl rfl
      have HO := Lib.hid hown
      clear hown
      go_wp2_with fail
      go_ret
      exact ⟨_, rfl, HO.out, below_trans hb0 hbel⟩
end Go.Proofs.YtpbfdmfkmbdpkaaGreat
namespace Go.Proofs.YtpbfdmfkmbdpkaaGreat
set_option linter.unusedVariables false
set_option linter.unusedSimpArgs false
open Go.ChangeShapes Go.WideShapes Go.ChangeAt Go.RowKit
attribute [local go_sem] ext_cell ext_frozen ext_lt ext_lt1 ext_lt2 ext_lt3 ltn2 ltn3 ltn13 lts1 lts2 lts3
/-- a literal of ints, laid in a block of its own -/
theorem lit_sl (w : World) (e : TypeId) (xs : List Int) (hm : xs.length ≤ maxLen) : SlE (w.alloc (.cells (xs.map (Value.int .i64)).toArray e)) cI 1 (.slice (some ⟨w.heap.size, 0, none⟩) xs.length xs.length) xs := by
  have h1 : xs.flatMap cI = (xs.map (Value.int .i64)) := by
    induction xs with
    | nil => rfl
    | cons x xs ih => rw [List.flatMap_cons, List.map_cons, ih (by simp at hm; omega)]; rfl
  have h := Own.of_row (xs := xs) (E := cI) (World.ownsRow_lit (base := 0) (e := e) (size := 1) w (xs.map (Value.int .i64)).toArray xs.length (Nat.zero_le _) hm (by simp)) rfl (by simp [h1])
  exact (h.sl cI_len).all (Nat.le_refl _)
set_option maxHeartbeats 4000000 in
set_option maxRecDepth 100000 in
theorem implDistancesTo (vg va : Value) (g : Gr) (a : Au) (y : Int) (w : World) (hgv : GrV 0 w.heap.size w vg g) (hav : AuV 0 w.heap.size w va a) :
    Calls Tryz.prog 104 #[vg, va, .int .i64 y] w fun e w' => ∃ v', e = .returned v' ∧ Own w.heap.size w'.heap.size w' 3 cI 1 v' (distTo g a y) ∧ Below w.heap.size w w' := by
  have hgv0 := hgv
  have hav0 := hav
  obtain ⟨A1, n1, c1, A2, n2, c2, rfl⟩ := hgv.shape
  obtain ⟨A3, n3, c3, A4, n4, c4, rfl⟩ := hav.shape
  have hb0 : Below w.heap.size w ((w.alloc (.cells #[.slice A1 n1 c1, .slice A2 n2 c2] 36)).alloc (.cells #[.int .i64 a.start, .slice A3 n3 c3, .slice A4 n4 c4] 38)) := ((Below.refl _ _).alloc (Nat.le_refl _) _).alloc (by simp) _
  have hb1 := hb0.alloc hb0.size (.cells #[.int .i64 y] 3)
  have hst : SlE (((w.alloc (.cells #[.slice A1 n1 c1, .slice A2 n2 c2] 36)).alloc (.cells #[.int .i64 a.start, .slice A3 n3 c3, .slice A4 n4 c4] 38)).alloc (.cells #[.int .i64 y] 3)) cI 1 (.slice (some ⟨w.heap.size + 1 + 1, 0, none⟩) 1 1) [y] := by
    have h := lit_sl ((w.alloc (.cells #[.slice A1 n1 c1, .slice A2 n2 c2] 36)).alloc (.cells #[.int .i64 a.start, .slice A3 n3 c3, .slice A4 n4 c4] 38)) 3 [y] (by unfold maxLen; simp)
    simpa using h
  have hbo := bothOk_any _ _ _ g a [y] _ (hgv0.keep hb1) (hav0.keep hb1) hst
  have HBO := Lib.hid hbo
  have HGV := Lib.hid hgv0
  have HAV := Lib.hid hav0
  clear hgv hav hgv0 hav0 hbo hst
  cases hk : ([y].all (fun s => wi s 0 ((g.vals.length : Int) - 1)) && (grOk g && auOk a)) with
  | false =>
    rw [hk] at HBO
    have hfin : distTo g a y = [] := by unfold distTo; rw [if_neg]; simpa using hk
    have HF := Lib.hid hfin
    clear hk hfin
    go_enter Tryz.func104, Tryz.ntmps104
    go_wp2_with fail
    refine HBO.out.mono ?_
    rintro e w1 ⟨rfl, hb2⟩
    go_wp2_with fail
    go_ret
    exact ⟨_, rfl, by rw [HF.out]; exact Own.nil _ _ _ _ _ _, below_trans hb1 hb2⟩
  | true =>
    rw [hk] at HBO
    simp only [List.all_cons, List.all_nil, Bool.and_true, Bool.and_eq_true, wi_iff] at hk
    obtain ⟨⟨hy0, hy1⟩, hgo, hao⟩ := hk
    have hgo2 := grOk_iff.1 hgo
    have hfin : distTo g a y = spreadR (g.vals.length * a.accept.length) (turnL (g.vals.length * a.accept.length) (nextI g a)) (goalsL g a y.toNat) := by
      unfold distTo; rw [if_pos]; simp [wi_iff, hy0, hy1, hgo, hao]
    obtain ⟨y, rfl⟩ := Int.eq_ofNat_of_zero_le hy0
    rw [Int.toNat_natCast] at hfin
    have hyn : y < g.vals.length := by omega
    obtain ⟨N, hN⟩ : ∃ N, N = g.vals.length * a.accept.length := ⟨_, rfl⟩
    rw [← hN] at hfin
    have hn5 := hgo2.n5
    have hn1 := hgo2.n1
    have hm12 := (auOk_iff.1 hao).1.2
    have hm1 := (auOk_iff.1 hao).1.1
    have hN60 : N ≤ 60 := by rw [hN]; have := Nat.mul_le_mul hn5 hm12; omega
    have hN1 : 1 ≤ N := by rw [hN]; exact Nat.mul_pos hn1 hm1
    have hnl : ∀ i, i < N → (nextI g a i).length ≤ 288 ∧ ∀ k ∈ nextI g a i, k < N := fun i _ => ⟨nextV_len hgo2 _ _, fun k hk => by rw [hN]; exact nextV_lt hgo2 hao hk⟩
    have htl : ∀ i, i < N → ∀ k ∈ turnL N (nextI g a) i, k < N := fun i _ k hk => (mem_turnL.1 hk).1
    have hgl : ∀ i ∈ goalsL g a y, i < N := fun i hi => by
      obtain ⟨s, hs, _, rfl⟩ := mem_goalsL.1 hi
      rw [hN]; exact vert_lt hyn hs
    have hgll : (goalsL g a y).length ≤ 60 := Nat.le_trans (goalsTo_len g a y _) (by omega)
    have HN := Lib.hid hN
    have HNL := Lib.hid hnl
    have HTL := Lib.hid htl
    have HGL := Lib.hid hgl
    have HGO := Lib.hid hgo2
    have HAO := Lib.hid hao
    have HF := Lib.hid hfin
    clear hN hnl htl hgl hgo hgo2 hao hfin hy0 hy1
    go_enter Tryz.func104, Tryz.ntmps104
    go_wp2_with fail
    refine HBO.out.mono ?_
    rintro e w1 ⟨rfl, hb2⟩
    have hb3 := below_trans hb1 hb2
    have b0 := (((Blk.new w 36 #[.slice A1 n1 c1, .slice A2 n2 c2] w.heap.size rfl).alloc (.cells #[.int .i64 a.start, .slice A3 n3 c3, .slice A4 n4 c4] 38)).alloc (.cells #[.int .i64 (y : Int)] 3)).keep hb2
    have b1 := ((Blk.new (w.alloc (.cells #[.slice A1 n1 c1, .slice A2 n2 c2] 36)) 38 #[.int .i64 a.start, .slice A3 n3 c3, .slice A4 n4 c4] (w.heap.size + 1) (by simp)).alloc (.cells #[.int .i64 (y : Int)] 3)).keep hb2
    have x0 : w1.cell? ⟨w.heap.size, 0, none⟩ = some (.slice A1 n1 c1) := b0.cell 0
    have x1 : w1.cell? ⟨w.heap.size, 1, none⟩ = some (.slice A2 n2 c2) := b0.cell 1
    have y0 : w1.cell? ⟨w.heap.size + 1, 0, none⟩ = some (.int .i64 a.start) := b1.cell 0
    have y1 : w1.cell? ⟨w.heap.size + 1, 1, none⟩ = some (.slice A3 n3 c3) := b1.cell 1
    have y2 : w1.cell? ⟨w.heap.size + 1, 2, none⟩ = some (.slice A4 n4 c4) := b1.cell 2
    clear hb0 hb1 hb2 b0 b1 HBO
    go_wp2_with fail
    go_region_held3 (fun w' => w'.cell? ⟨w.heap.size, 0, none⟩ = some (.slice A1 n1 c1) ∧ w'.cell? ⟨w.heap.size, 1, none⟩ = some (.slice A2 n2 c2) ∧ w'.cell? ⟨w.heap.size + 1, 0, none⟩ = some (.int .i64 a.start) ∧ w'.cell? ⟨w.heap.size + 1, 1, none⟩ = some (.slice A3 n3 c3) ∧ w'.cell? ⟨w.heap.size + 1, 2, none⟩ = some (.slice A4 n4 c4))
      (first | (exact ⟨x0, x1, y0, y1, y2⟩) | assumption | (exact kB5 hbA (by assumption)) | (exact kB5 hbB (by assumption)) | (exact kB5 hbC (by assumption)) | (exact kB5 hbD (by assumption)))
      (first | (go_at_call 117; refine (nextVertices_any _ _ g a _ (GrV.keep (w' := w1.drew) HGV.out hb3.drew) (AuV.keep (w' := w1.drew) HAV.out hb3.drew) HGO.out HAO.out).mono ?_; rintro e wA ⟨vA, rfl, hsA, hbA⟩; rw [← HN.out] at hsA) | (go_at_call 127; refine (turned_any vA N (nextI g a) _ (hsA.mono (Nat.zero_le _) (Nat.le_refl _)) hN60 HNL.out).mono ?_; rintro e wB ⟨vB, rfl, hsB, hbB⟩) | (go_at_call 128; refine (goals_any _ _ g a y _ (HGV.out.keep (below_trans (below_trans hb3.drew hbA) hbB)) (HAV.out.keep (below_trans (below_trans hb3.drew hbA) hbB)) HGO.out HAO.out hyn).mono ?_; rintro e wC ⟨vC, rfl, hoC, hbC⟩) | (go_at_call 116; refine (spread_any vB vC N (turnL N (nextI g a)) (goalsL g a y) _ ((hsB.mono (Nat.zero_le _) (Nat.le_refl _)).keep hbC) ((hoC.sl cN_len).all (Nat.le_refl _)) hN1 hN60 hgll HGL.out HTL.out).mono ?_; rintro e wD ⟨vD, rfl, hoD, hbD⟩))
    go_wp2_with fail
    go_ret
    have hbc := below_trans (below_trans (below_trans hb3.drew hbA) hbB) hbC
    exact ⟨_, rfl, by rw [HF.out]; exact hoD.mono hbc.size (Nat.le_refl _), below_trans hbc hbD⟩
end Go.Proofs.YtpbfdmfkmbdpkaaGreat
namespace Go.Proofs.YtpbfdmfkmbdpkaaGreat
set_option linter.unusedVariables false
set_option linter.unusedSimpArgs false
open Go.ChangeShapes Go.WideShapes Go.ChangeAt Go.RowKit
attribute [local go_sem] ext_cell ext_frozen ext_lt ext_lt1 ext_lt2 ext_lt3 ltn2 ltn3 ltn13 lts1 lts2 lts3
end Go.Proofs.YtpbfdmfkmbdpkaaGreat
namespace Go.Proofs.YtpbfdmfkmbdpkaaGreat
set_option linter.unusedVariables false
set_option linter.unusedSimpArgs false
open Go.ChangeShapes Go.WideShapes Go.ChangeAt Go.RowKit
attribute [local go_sem] ext_cell ext_frozen ext_lt ext_lt1 ext_lt2 ext_lt3 ltn2 ltn3 ltn13 lts1 lts2 lts3
theorem contains_any (v : Value) (us : List Int) (x : Int) (w : World) (hv : SlE w cI 1 v us) (hn : us.length ≤ 1000000) :
    Calls Tryz.prog 130 #[v, .int .i64 x] w fun e w' => e = .returned (.bool (us.contains x)) ∧ w' = w := by
  obtain ⟨A, c, rfl, -, -, h⟩ := SlE.form hv
  cases us with
  | nil => exact Tryz.slices_Contains_int_empty A c x w
  | cons u us =>
    obtain ⟨b, o, rfl, -, -⟩ := h.int (i := 0) (x := u) rfl
    have hct := Tryz.slices_Contains_int b o (u :: us).length c (u :: us) x w (Nat.le_refl _) (by omega) (fun j hj => (SlC.intA h (getD_of hj)).2)
    rw [List.take_length] at hct
    exact hct
end Go.Proofs.YtpbfdmfkmbdpkaaGreat
namespace Go.Proofs.YtpbfdmfkmbdpkaaGreat
set_option linter.unusedVariables false
set_option linter.unusedSimpArgs false
/-- the first list -/
def ini (g : Gr) (a : Au) (y z : Nat) : Int := if (z / a.accept.length == y && accC a (valAt g y) (z % a.accept.length)) = true then 0 else -1
def iniL (g : Gr) (a : Au) (y k : Nat) : List Int := (List.range k).map (ini g a y)
theorem iniL_len (g : Gr) (a : Au) (y k : Nat) : (iniL g a y k).length = k := by simp [iniL]
theorem iniL_snoc (g : Gr) (a : Au) (y k : Nat) : iniL g a y (k + 1) = iniL g a y k ++ [ini g a y k] := by simp [iniL, List.range_succ]
theorem iniL_at {g : Gr} {a : Au} {y k i : Nat} (h : i < k) : (iniL g a y k).getD i 0 = ini g a y i := by simp [iniL, List.getD, h]
theorem ini_goal {g : Gr} {a : Au} {y z : Nat} (hn : 0 < a.accept.length) : (z / a.accept.length == y && accC a (valAt g y) (z % a.accept.length)) = true ↔ z ∈ goalsL g a y := by
  rw [mem_goalsL, Bool.and_eq_true, beq_iff_eq]
  constructor
  · rintro ⟨rfl, h⟩
    exact ⟨z % a.accept.length, Nat.mod_lt _ hn, h, by rw [Nat.mul_comm]; exact (Nat.div_add_mod z _).symm⟩
  · rintro ⟨s, hs, hc, rfl⟩
    have h1 : (y * a.accept.length + s) / a.accept.length = y := by rw [Nat.mul_comm, Nat.mul_add_div hn, Nat.div_eq_of_lt hs]; rfl
    have h2 : (y * a.accept.length + s) % a.accept.length = s := by rw [Nat.mul_comm, Nat.mul_add_mod, Nat.mod_eq_of_lt hs]
    rw [h1, h2]
    exact ⟨rfl, hc⟩
theorem ini_SwO {g : Gr} {a : Au} {y N : Nat} (hn : 0 < a.accept.length) (next : Nat → List Nat) : SwO next (fun i => i ∈ goalsL g a y) N (iniL g a y N) 0 := by
  refine ⟨iniL_len .., fun i hi => ?_⟩
  rw [iniL_at hi, ini]
  by_cases h : (i / a.accept.length == y && accC a (valAt g y) (i % a.accept.length)) = true
  · rw [if_pos h]
    exact .inr ⟨Int.le_refl _, Int.le_refl _, .inr ⟨Int.le_refl _, (ini_goal hn).1 h, fun m hm => absurd hm (by simp)⟩⟩
  · rw [if_neg h]
    refine .inl ⟨rfl, fun m hm => ?_⟩
    obtain rfl : m = 0 := by omega
    exact fun hg => h ((ini_goal hn).2 hg)
/-- what the sweeps find is what the search found -/
theorem sweep_eq {g : Gr} {a : Au} {y : Nat} (hg : grOk g = true) (ha : auOk a = true) (hy : y < g.vals.length) {D : List Int} (hl : D.length = g.vals.length * a.accept.length)
    (h : ∀ i, i < g.vals.length * a.accept.length → IsDist (nextI g a) (fun i => i ∈ goalsL g a y) i (D.getD i 0)) : D = distTo g a (y : Int) := by
  have hd : (wi (y : Int) 0 ((g.vals.length : Int) - 1) && (grOk g && auOk a)) = true := by
    simp only [Bool.and_eq_true]
    exact ⟨by rw [wi_iff]; omega, hg, ha⟩
  have hN : ∀ i k, i < g.vals.length * a.accept.length → k ∈ nextI g a i → k < g.vals.length * a.accept.length := fun i k _ hk => nextV_lt (grOk_iff.1 hg) ha hk
  have hfs : ∀ i ∈ goalsL g a y, i < g.vals.length * a.accept.length := fun i hi => by
    obtain ⟨s, hs, _, rfl⟩ := mem_goalsL.1 hi
    calc y * a.accept.length + s < y * a.accept.length + a.accept.length := by omega
      _ = (y + 1) * a.accept.length := by rw [Nat.add_mul, Nat.one_mul]
      _ ≤ _ := Nat.mul_le_mul_right _ hy
  rw [distTo, if_pos hd, Int.toNat_natCast]
  refine List.ext_getElem (by rw [hl, spreadR_len]) fun i h1 h2 => ?_
  have hi : i < g.vals.length * a.accept.length := by omega
  have e := (h i hi).uniq (spread_dist hfs hN i hi)
  simpa [List.getD, h1, h2] using e
section
variable {next : Nat → List Nat} {goal : Nat → Prop} {N : Nat} {D D0 : List Int} {e i k : Nat} {ch ch0 : Bool}
/-- within a sweep, at vertex i, with k of its next ones looked at -/
def KI (next : Nat → List Nat) (D0 : List Int) (ch0 : Bool) (e i k : Nat) (D : List Int) (ch : Bool) : Prop :=
  (D = D0 ∧ ch = ch0 ∧ ∀ v ∈ (next i).take k, D0.getD v 0 ≠ (e : Int)) ∨ (D = D0.set i ((e : Int) + 1) ∧ ch = true ∧ D0.getD i 0 < 0 ∧ ∃ v ∈ next i, D0.getD v 0 = (e : Int))
def CI (e N : Nat) (D : List Int) (ch : Bool) : Prop := e + negs D ≤ N ∧ (ch = true → e + negs D + 1 ≤ N)
/-- after sweeps -/
def SW (next : Nat → List Nat) (goal : Nat → Prop) (N e : Nat) (D : List Int) (ch : Bool) : Prop :=
  D.length = N ∧ (ch = true → SwO next goal N D e ∧ e + negs D ≤ N) ∧ (ch = false → ∀ i, i < N → IsDist next goal i (D.getD i 0))
theorem KI.start : KI next D0 ch0 e i 0 D0 ch0 := .inl ⟨rfl, rfl, by simp⟩
theorem KI.len (h : KI next D0 ch0 e i k D ch) : D.length = D0.length := by
  rcases h with ⟨rfl, _⟩ | ⟨rfl, _⟩ <;> simp
theorem KI.neg (h : KI next D0 ch0 e i k D ch) (hi : i < D0.length) (hn : D.getD i 0 < 0) : D = D0 ∧ ch = ch0 ∧ ∀ v ∈ (next i).take k, D0.getD v 0 ≠ (e : Int) := by
  rcases h with h | ⟨rfl, _⟩
  · exact h
  · rw [getD_set' hi, if_pos rfl] at hn
    omega
theorem KI.miss (h : KI next D0 ch0 e i k D ch) (hi : i < D0.length) (hn : D.getD i 0 < 0) {v : Nat} (hv : (next i)[k]? = some v) (hd : ¬ D.getD v 0 = (e : Int)) : KI next D0 ch0 e i (k + 1) D ch := by
  obtain ⟨rfl, rfl, h3⟩ := h.neg hi hn
  refine .inl ⟨rfl, rfl, fun x hx => ?_⟩
  rw [take_snoc hv, List.mem_append, List.mem_singleton] at hx
  rcases hx with hx | rfl
  · exact h3 x hx
  · exact hd
theorem KI.hit (h : KI next D0 ch0 e i k D ch) (hi : i < D0.length) (hn : D.getD i 0 < 0) {v : Nat} (hv : (next i)[k]? = some v) (hd : D.getD v 0 = (e : Int)) : KI next D0 ch0 e i (k + 1) (D.set i ((e : Int) + 1)) true := by
  obtain ⟨rfl, rfl, h3⟩ := h.neg hi hn
  exact .inr ⟨rfl, rfl, hn, v, List.mem_of_getElem? hv, hd⟩
theorem KI.fin (h : KI next D0 ch0 e i k D ch) (hs : SwI next goal N D0 e i ch0) (hi : i < N) (hk : (next i).length ≤ k ∨ ¬ D.getD i 0 < 0) (hnN : ∀ i k, i < N → k ∈ next i → k < N) : SwI next goal N D e (i + 1) ch := by
  rcases h with ⟨rfl, rfl, h3⟩ | ⟨rfl, rfl, h3, v, hv, hd⟩
  · refine hs.skip ?_ hnN
    rcases hk with hk | hk
    · exact .inr fun v hv => h3 v (by rw [List.take_of_length_le hk]; exact hv)
    · exact .inl hk
  · exact hs.put hi h3 hv hd hnN
theorem KI.cnt (h : KI next D0 ch0 e i k D ch) (hc : CI e N D0 ch0) (hi : i < D0.length) : CI e N D ch := by
  rcases h with ⟨rfl, rfl, _⟩ | ⟨rfl, rfl, h3, _⟩
  · exact hc
  · have h1 := negs_set (k := i) (d := (e : Int) + 1) hi h3 (by omega)
    have h2 := hc.1
    exact ⟨by omega, fun _ => by omega⟩
theorem SW.enter (h : SW next goal N e D true) : SwI next goal N D e 0 false ∧ CI e N D false := ⟨(h.2.1 rfl).1.enter, (h.2.1 rfl).2, by simp⟩
theorem SW.leave (h : SwI next goal N D e N ch) (hc : CI e N D ch) (hnN : ∀ i k, i < N → k ∈ next i → k < N) : SW next goal N (e + 1) D ch := by
  refine ⟨h.1, fun ht => ⟨h.leave, ?_⟩, fun hf => ?_⟩
  · have := hc.2 ht; omega
  · subst hf; exact h.stop hnN
theorem SW.ini (h : SwO next goal N D 0) : SW next goal N 0 D true := by
  refine ⟨h.1, fun _ => ⟨h, ?_⟩, by simp⟩
  have := List.countP_le_length (p := fun x : Int => decide (x < 0)) (l := D)
  rw [h.1] at this
  simpa [negs] using this
theorem CI.le (h : CI e N D ch) : e ≤ N := by have := h.1; omega
end
end Go.Proofs.YtpbfdmfkmbdpkaaGreat
namespace Go.Proofs.YtpbfdmfkmbdpkaaGreat
set_option linter.unusedVariables false
set_option linter.unusedSimpArgs false
open Go.ChangeShapes Go.WideShapes Go.ChangeAt Go.RowKit
attribute [local go_sem] ext_cell ext_frozen ext_lt ext_lt1 ext_lt2 ext_lt3 ltn2 ltn3 ltn13 lts1 lts2 lts3
theorem elPSS : ElemOk Tryz.prog 110 111 (.slice none 0 0) 1 24 := ⟨Tryz.underlying110, by kernel_rfl, rfl, by omega⟩
/-- the rows of the product's steps, vertex by vertex -/
def psI (g : Gr) (a : Au) (i : Nat) : List PS := prodSteps g a (i / a.accept.length) (i % a.accept.length)
theorem psI_next (g : Gr) (a : Au) (i : Nat) : nextI g a i = (psI g a i).map (psV a.accept.length) := (psV_next g a _ _).symm
theorem SlI.ps {lo hi : Nat} {w : World} {A : Option Addr} {n c : Nat} {xs : List PS} (h : SlI lo hi w cPS 4 (.slice A n c) xs) {i : Nat} {x : PS} (hx : xs[i]? = some x) :
    ∃ b o, A = some ⟨b, o, none⟩ ∧ lo ≤ b ∧ b < hi ∧ w.cell? ⟨b, o + i * 4 + 2, none⟩ = some (.int .i64 x.2.1) ∧ w.cell? ⟨b, o + i * 4 + 3, none⟩ = some (.int .i64 x.2.2) := by
  obtain ⟨A', c', hv, _, _, h3⟩ := h
  injection hv with h1 _ _
  subst h1
  obtain ⟨b, o, e, g1, g2, hc⟩ := h3 i x hx
  exact ⟨b, o, e, g1, g2, hc 2 _ rfl, hc 3 _ rfl⟩
def psL (g : Gr) (a : Au) (k : Nat) : List (List PS) := (List.range k).map (psI g a)
theorem psL_len (g : Gr) (a : Au) (k : Nat) : (psL g a k).length = k := by simp [psL]
theorem psL_snoc (g : Gr) (a : Au) (k : Nat) : psL g a (k + 1) = psL g a k ++ [psI g a k] := by simp [psL, List.range_succ]
theorem psL_at {g : Gr} {a : Au} {k i : Nat} (h : i < k) : (psL g a k)[i]? = some (psI g a i) := by simp [psL, h]
set_option maxHeartbeats 8000000 in
set_option maxRecDepth 100000 in
theorem l14Back_any (vg va : Value) (g : Gr) (a : Au) (y : Nat) (w : World) (hgv : GrV 0 w.heap.size w vg g) (hav : AuV 0 w.heap.size w va a) (hgo : grOk g = true) (ha : auOk a = true) (hy : y < g.vals.length) :
    Calls Tryz.prog 56 #[vg, va, .int .i64 (y : Int)] w fun e w' => ∃ v', e = .returned v' ∧ Own w.heap.size w'.heap.size w' 3 cI 1 v' (distTo g a (y : Int)) ∧ Below w.heap.size w w' := by
  have hg := grOk_iff.1 hgo
  have hav0 := hav
  have hgv0 := hgv
  obtain ⟨A1, c1, A2, c2, rfl, hl1, hm1, hl2, hm2, -, -⟩ := hgv.form
  obtain ⟨A3, c3, A4, c4, rfl, hl3, hm3, hl4, hm4, -⟩ := hav.form ha
  have hn5 := hg.n5
  have he12 := hg.e12
  have hn12 := (auOk_iff.1 ha).1.2
  have hn1 := (auOk_iff.1 ha).1.1
  have hN60 : g.vals.length * a.accept.length ≤ 60 := Nat.mul_le_mul hn5 hn12
  have HGO := Lib.hid hgo
  have HAO := Lib.hid ha
  have HAV := Lib.hid hav0
  have HGV := Lib.hid hgv0
  have hb0 : Below w.heap.size w ((w.alloc (.cells #[.slice A1 g.vals.length c1, .slice A2 g.edges.length c2] 36)).alloc (.cells #[.int .i64 a.start, .slice A3 a.accept.length c3, .slice A4 a.accept.length c4] 38)) := ((Below.refl _ _).alloc (Nat.le_refl _) _).alloc (by simp) _
  obtain ⟨R, hR⟩ : ∃ R, R = distTo g a (y : Int) := ⟨_, rfl⟩
  rw [← hR]
  have HR := Lib.hid hR
  clear hgv hav ha hg hgo hav0 hgv0 hR
  go_enter Tryz.func56, Tryz.ntmps56
  go_wp2_with fail
  obtain ⟨W0, hW0⟩ : ∃ W0, W0 = ((w.alloc (.cells #[.slice A1 g.vals.length c1, .slice A2 g.edges.length c2] 36)).alloc (.cells #[.int .i64 a.start, .slice A3 a.accept.length c3, .slice A4 a.accept.length c4] 38)) := ⟨_, rfl⟩
  rw [← hW0] at hb0 ⊢
  have x0 : W0.cell? ⟨w.heap.size, 0, none⟩ = some (.slice A1 g.vals.length c1) := by rw [hW0]; simp
  have x1 : W0.cell? ⟨w.heap.size, 1, none⟩ = some (.slice A2 g.edges.length c2) := by rw [hW0]; simp
  have y0 : W0.cell? ⟨w.heap.size + 1, 0, none⟩ = some (.int .i64 a.start) := by rw [hW0]; simp
  have y1 : W0.cell? ⟨w.heap.size + 1, 1, none⟩ = some (.slice A3 a.accept.length c3) := by rw [hW0]; simp
  have y2 : W0.cell? ⟨w.heap.size + 1, 2, none⟩ = some (.slice A4 a.accept.length c4) := by rw [hW0]; simp
  have hs0 : w.heap.size + 1 + 1 = W0.heap.size := by rw [hW0]; simp
  rw [hs0]
  have l0 : w.heap.size + 1 < W0.heap.size := by omega
  have l00 : w.heap.size < W0.heap.size := by omega
  clear hW0 hs0
  obtain ⟨N, hN⟩ : ∃ N, N = g.vals.length * a.accept.length := ⟨_, rfl⟩
  rw [← hN] at hN60
  have m0 : IntKind.i64.wrap ((g.vals.length : Int) * (a.accept.length : Int)) = (N : Int) := by rw [IntWalk.i64_in _ (by rw [← Int.natCast_mul, ← hN]; omega)]; rw [hN, Int.natCast_mul]
  have m0' : (g.vals.length : Int) * (a.accept.length : Int) = (N : Int) := by rw [hN, Int.natCast_mul]
  have HN := Lib.hid hN
  clear hN
  go_loopw [8, 9, 10] (fun dd kk _ wr => ∃ k : Nat, k ≤ N ∧ kk = .int .i64 (k : Int) ∧ wr.ownsRow W0.heap.size 3 1 dd (iniL g a y k).length ((iniL g a y k).flatMap cI) ∧ Below W0.heap.size W0 wr) (fun _ kk _ _ => N - (intOf kk).toNat)
  case atStart => exact ⟨0, Nat.zero_le _, rfl, World.ownsRow_lit W0 #[] 0 (Nat.le_refl _) (by decide) rfl, (Below.refl _ _).alloc (Nat.le_refl _) _⟩
  case round =>
    obtain ⟨k, hk, rfl, hrow, hbel⟩ := hrel
    have HROW := Lib.hid hrow
    have x0 := kcell hbel x0
    have x1 := kcell hbel x1
    have y0 := kcell hbel y0
    have y1 := kcell hbel y1
    have y2 := kcell hbel y2
    have hsz := hbel.size
    have l0 := Nat.lt_of_lt_of_le l0 hsz
    have l00 := Nat.lt_of_lt_of_le l00 hsz
    have hbw := below_trans hb0 hbel
    have HBW := Lib.hid hbw
    clear hrow hbw
    by_cases hlt : k < N
    · have hgp : g.vals.length * a.accept.length = N := HN.out.symm
      have hnp : 0 < a.accept.length := by rcases Nat.eq_zero_or_pos a.accept.length with h | h; (rw [h, Nat.mul_zero] at hgp; omega); exact h
      obtain ⟨X, hX⟩ : ∃ X, X = k / a.accept.length := ⟨_, rfl⟩
      obtain ⟨S, hS⟩ : ∃ S, S = k % a.accept.length := ⟨_, rfl⟩
      have hXl : X < g.vals.length := by rw [hX]; exact Nat.div_lt_of_lt_mul (by rw [Nat.mul_comm, hgp]; exact hlt)
      have hSl : S < a.accept.length := by rw [hS]; exact Nat.mod_lt _ hnp
      have t1 : (k : Int).tdiv (a.accept.length : Int) = (X : Int) := by rw [hX]; rfl
      have t2 : (k : Int).tmod (a.accept.length : Int) = (S : Int) := by rw [hS]; rfl
      have hn0 : ((a.accept.length : Int) == 0) = false := by simp only [beq_eq_false_iff_ne, ne_eq]; omega
      have hki : (k : Int) < (N : Int) := by omega
      have HINI := Lib.hid (show ini g a y k = if (X == y && accC a (valAt g y) S) = true then 0 else -1 by rw [hX, hS]; rfl)
      clear hX hS hgp
      have HSN := Lib.hid (iniL_snoc g a y k)
      have hil : (iniL g a y k).length ≤ 60 := by rw [iniL_len]; omega
      generalize iniL g a y k = D at *
      have HACC := Lib.hid (show ∀ W, Below w.heap.size w W → Calls Tryz.prog 83 #[.agg #[.slice A1 g.vals.length c1, .slice A2 g.edges.length c2], .agg #[.int .i64 a.start, .slice A3 a.accept.length c3, .slice A4 a.accept.length c4], .int .i64 (X : Int), .int .i64 (S : Int)] W fun e w' => e = .returned (.bool (accC a (valAt g X) S)) ∧ Below W.heap.size W w' from fun W hW => l14Accepts_any _ _ g a X S W (HGV.out.keep hW) (HAV.out.keep hW) (grOk_iff.1 HGO.out) HAO.out hXl hSl)
      by_cases hxy : X = y
      · have k1 : ((X : Int) == (y : Int)) = true := by rw [hxy]; simp
        have HXY := Lib.hid hxy
        clear hxy
        go_wp2_with fail
        refine wp_region_ext_lit (by kernel_rfl) (by kernel_rfl) ?_
        repeat (go_big_quiet_step ((go_at_call 83; exact Calls.ext_of (HACC.out _ (below_trans HBW.out (ext_below _ _))))))
        refine wpQuiet_nil ?_
        intro _ hw'
        obtain ⟨u2, hw''⟩ := hw'
        subst hw''
        have hbu := ext_below wr u2
        have HR2 := Lib.hid (ownsRow_below HROW.out hbu (Nat.le_refl _))
        have hz2 : W0.heap.size ≤ (ext wr u2).heap.size := Nat.le_trans hsz hbu.size
        have hbel2 := hbel.trans (hbu.mono hsz)
        generalize ext wr u2 = wx at *
        cases hacc : accC a (valAt g X) S with
        | true =>
          have HV := Lib.hid (show ini g a y k = 0 by rw [HINI.out, ← HXY.out, hacc]; simp)
          clear hacc
          go_wp2_with (at_builtin; (refine wpList_append1 cI elInt rfl _ _ rfl W0.heap.size _ (D) (0) _ 1 _ (by rfl) (HR2.out) (by rfl) rfl rfl rfl (cI_one _) (by omega) (by omega) (by omega) ?_); intro v' w4 hrow' hb4 _ _)
          go_roundw
          case rel => exact ⟨k + 1, by omega, by go_num, by rw [HSN.out, HV.out]; exact hrow', hbel2.trans hb4⟩
          case measure => simp [intOf]; omega
        | false =>
          have HV := Lib.hid (show ini g a y k = -1 by rw [HINI.out, ← HXY.out, hacc]; simp)
          clear hacc
          go_wp2_with (at_builtin; (refine wpList_append1 cI elInt rfl _ _ rfl W0.heap.size _ (D) (-1) _ 1 _ (by rfl) (HR2.out) (by rfl) rfl rfl rfl (cI_one _) (by omega) (by omega) (by omega) ?_); intro v' w4 hrow' hb4 _ _)
          go_roundw
          case rel => exact ⟨k + 1, by omega, by go_num, by rw [HSN.out, HV.out]; exact hrow', hbel2.trans hb4⟩
          case measure => simp [intOf]; omega
      · have k1 : ((X : Int) == (y : Int)) = false := by simp only [beq_eq_false_iff_ne, ne_eq]; omega
        have HV := Lib.hid (show ini g a y k = -1 by rw [HINI.out, beq_eq_false_iff_ne.2 hxy]; simp)
        clear hxy
        go_wp2_with fail
        refine wp_region_ext_lit (by kernel_rfl) (by kernel_rfl) ?_
        repeat (go_big_quiet_step ((go_at_call 83; exact Calls.ext_of (HACC.out _ (below_trans HBW.out (ext_below _ _))))))
        refine wpQuiet_nil ?_
        intro _ hw'
        obtain ⟨u2, hw''⟩ := hw'
        subst hw''
        have hbu := ext_below wr u2
        have HR2 := Lib.hid (ownsRow_below HROW.out hbu (Nat.le_refl _))
        have hz2 : W0.heap.size ≤ (ext wr u2).heap.size := Nat.le_trans hsz hbu.size
        have hbel2 := hbel.trans (hbu.mono hsz)
        generalize ext wr u2 = wx at *
        go_wp2_with (at_builtin; (refine wpList_append1 cI elInt rfl _ _ rfl W0.heap.size _ (D) (-1) _ 1 _ (by rfl) (HR2.out) (by rfl) rfl rfl rfl (cI_one _) (by omega) (by omega) (by omega) ?_); intro v' w4 hrow' hb4 _ _)
        go_roundw
        case rel => exact ⟨k + 1, by omega, by go_num, by rw [HSN.out, HV.out]; exact hrow', hbel2.trans hb4⟩
        case measure => simp [intOf]; omega
    · obtain rfl : k = N := by omega
      clear hlt hk
      obtain ⟨wo, rfl⟩ : ∃ wo : World, wo = wr := ⟨_, rfl⟩
      obtain ⟨AD, cD, rfl, hlD, hmD, -⟩ := (Own.of_row (xs := iniL g a y k) HROW.out rfl rfl).form cI_len
      rw [iniL_len] at hlD ⊢
      go_wp2_with fail
      go_loopw [11, 12] (fun nn ii wr => ∃ (i : Nat) (us : List Value), i ≤ k ∧ ii = .int .i64 (i : Int) ∧ NS wo.heap.size wr 111 114 cPS 4 nn us (psL g a i) ∧ Below wo.heap.size wo wr) (fun _ ii _ => k - (intOf ii).toNat)
      case atStart => exact ⟨0, [], Nat.zero_le _, rfl, NS.start (World.ownsRow_lit wo #[] 0 (Nat.le_refl _) (by decide) rfl), (Below.refl _ _).alloc (Nat.le_refl _) _⟩
      case round =>
        obtain ⟨i, us, hi, rfl, hns, hb2⟩ := hrel
        have hbw2 := below_trans HBW.out hb2
        have x0 := kcell hb2 x0
        have x1 := kcell hb2 x1
        have y0 := kcell hb2 y0
        have y1 := kcell hb2 y1
        have y2 := kcell hb2 y2
        have hs2 := hb2.size
        have HNS := Lib.hid hns
        have HBW2 := Lib.hid hbw2
        clear hns hbw2
        by_cases hlt : i < k
        · have hgp : g.vals.length * a.accept.length = k := HN.out.symm
          have hnp : 0 < a.accept.length := by rcases Nat.eq_zero_or_pos a.accept.length with h | h; (rw [h, Nat.mul_zero] at hgp; omega); exact h
          obtain ⟨X, hX⟩ : ∃ X, X = i / a.accept.length := ⟨_, rfl⟩
          obtain ⟨S, hS⟩ : ∃ S, S = i % a.accept.length := ⟨_, rfl⟩
          have hXl : X < g.vals.length := by rw [hX]; exact Nat.div_lt_of_lt_mul (by rw [Nat.mul_comm, hgp]; exact hlt)
          have hSl : S < a.accept.length := by rw [hS]; exact Nat.mod_lt _ hnp
          have t1 : (i : Int).tdiv (a.accept.length : Int) = (X : Int) := by rw [hX]; rfl
          have t2 : (i : Int).tmod (a.accept.length : Int) = (S : Int) := by rw [hS]; rfl
          have hn0 : ((a.accept.length : Int) == 0) = false := by simp only [beq_eq_false_iff_ne, ne_eq]; omega
          have HPX := Lib.hid (show psL g a (i + 1) = psL g a i ++ [prodSteps g a X S] by rw [psL_snoc, hX, hS]; rfl)
          have hpl := psL_len g a i
          clear hX hS hgp
          generalize psL g a i = PL at *
          have N0 := Ne.symm (α := Option Nat) (mt (HNS.out.own.lt w.heap.size) (by omega))
          have N1 := Ne.symm (α := Option Nat) (mt (HNS.out.own.lt (w.heap.size + 1)) (by omega))
          have HN0 := Lib.hid N0
          have HN1 := Lib.hid N1
          have hae : a.accept ≠ [] := by intro h; rw [h] at hnp; simp at hnp
          have q1 : IntKind.i64.wrap (X : Int) = (X : Int) := IntWalk.i64_in _ (by omega)
          have q2 : IntKind.i64.wrap (S : Int) = (S : Int) := IntWalk.i64_in _ (by omega)
          clear N0 N1
          go_wp2_with fail
          refine F_start 12 (fun w' => w'.cell? ⟨w.heap.size, 0, none⟩ = some (.slice A1 g.vals.length c1) ∧ w'.cell? ⟨w.heap.size, 1, none⟩ = some (.slice A2 g.edges.length c2) ∧ w'.cell? ⟨w.heap.size + 1, 0, none⟩ = some (.int .i64 a.start) ∧ w'.cell? ⟨w.heap.size + 1, 1, none⟩ = some (.slice A3 a.accept.length c3) ∧ w'.cell? ⟨w.heap.size + 1, 2, none⟩ = some (.slice A4 a.accept.length c4)) (by kernel_rfl) (by exact ⟨x0, x1, y0, y1, y2⟩) (fun hS inv => ?_)
          refine F_take (i := 0) (v := ?_) rfl (by kernel_rfl) (by kernel_rfl) (by kernel_rfl) (fun _ _ _ h => h) inv (Or.inl ⟨by rfl, ?_⟩) (by assumption) (fun invn => ?_)
          rotate_left
          · (intro w hSw; (try dsimp only at hSw); go_simp; try with_reducible rfl)
          try simp only [List.getElem_toArray, List.getElem_cons_zero, List.getElem_cons_succ, Act.put, List.setIfInBounds_toArray, List.set_cons_zero, List.set_cons_succ]
          clear inv
          have inv := invn
          clear invn
          refine F_take (i := 1) (v := ?_) rfl (by kernel_rfl) (by kernel_rfl) (by kernel_rfl) (fun _ _ _ h => h) inv (Or.inl ⟨by rfl, ?_⟩) (by assumption) (fun invn => ?_)
          rotate_left
          · (intro w hSw; (try dsimp only at hSw); go_simp; try with_reducible rfl)
          try simp only [List.getElem_toArray, List.getElem_cons_zero, List.getElem_cons_succ, Act.put, List.setIfInBounds_toArray, List.set_cons_zero, List.set_cons_succ]
          clear inv
          have inv := invn
          clear invn
          refine F_take (i := 2) (v := ?_) rfl (by kernel_rfl) (by kernel_rfl) (by kernel_rfl) (fun _ _ _ h => h) inv (Or.inl ⟨by rfl, ?_⟩) (by assumption) (fun invn => ?_)
          rotate_left
          · (intro w hSw; (try dsimp only at hSw); go_simp; try with_reducible rfl)
          try simp only [List.getElem_toArray, List.getElem_cons_zero, List.getElem_cons_succ, Act.put, List.setIfInBounds_toArray, List.set_cons_zero, List.set_cons_succ]
          clear inv
          have inv := invn
          clear invn
          refine F_take (i := 3) (v := ?_) rfl (by kernel_rfl) (by kernel_rfl) (by kernel_rfl) (fun _ _ _ h => h) inv (Or.inl ⟨by rfl, ?_⟩) (by assumption) (fun invn => ?_)
          rotate_left
          · (intro w hSw; (try dsimp only at hSw); go_simp; try with_reducible rfl)
          try simp only [List.getElem_toArray, List.getElem_cons_zero, List.getElem_cons_succ, Act.put, List.setIfInBounds_toArray, List.set_cons_zero, List.set_cons_succ]
          clear inv
          have inv := invn
          clear invn
          refine F_take (i := 4) (v := ?_) rfl (by kernel_rfl) (by kernel_rfl) (by kernel_rfl) (fun _ _ _ h => h) inv (Or.inl ⟨by rfl, ?_⟩) (by assumption) (fun invn => ?_)
          rotate_left
          · (intro w hSw; (try dsimp only at hSw); go_simp; try with_reducible rfl)
          try simp only [List.getElem_toArray, List.getElem_cons_zero, List.getElem_cons_succ, Act.put, List.setIfInBounds_toArray, List.set_cons_zero, List.set_cons_succ]
          clear inv
          have inv := invn
          clear invn
          refine F_take (i := 5) (v := ?_) rfl (by kernel_rfl) (by kernel_rfl) (by kernel_rfl) (fun _ _ _ h => h) inv (Or.inl ⟨by rfl, ?_⟩) (by assumption) (fun invn => ?_)
          rotate_left
          · (intro w hSw; (try dsimp only at hSw); go_simp; try with_reducible rfl)
          try simp only [List.getElem_toArray, List.getElem_cons_zero, List.getElem_cons_succ, Act.put, List.setIfInBounds_toArray, List.set_cons_zero, List.set_cons_succ]
          clear inv
          have inv := invn
          clear invn
          refine F_take (i := 6) (v := ?_) rfl (by kernel_rfl) (by kernel_rfl) (by kernel_rfl) (fun _ _ _ h => h) inv (Or.inl ⟨by rfl, ?_⟩) (by assumption) (fun invn => ?_)
          rotate_left
          · (intro w hSw; (try dsimp only at hSw); go_simp; try with_reducible rfl)
          try simp only [List.getElem_toArray, List.getElem_cons_zero, List.getElem_cons_succ, Act.put, List.setIfInBounds_toArray, List.set_cons_zero, List.set_cons_succ]
          clear inv
          have inv := invn
          clear invn
          refine F_take (i := 7) (v := ?_) rfl (by kernel_rfl) (by kernel_rfl) (by kernel_rfl) (fun _ _ _ h => h) inv (Or.inl ⟨by rfl, ?_⟩) (by assumption) (fun invn => ?_)
          rotate_left
          · (intro w hSw; (try dsimp only at hSw); go_simp; try with_reducible rfl)
          try simp only [List.getElem_toArray, List.getElem_cons_zero, List.getElem_cons_succ, Act.put, List.setIfInBounds_toArray, List.set_cons_zero, List.set_cons_succ]
          clear inv
          have inv := invn
          clear invn
          refine F_take (i := 8) (v := ?_) rfl (by kernel_rfl) (by kernel_rfl) (by kernel_rfl) (fun _ _ _ h => h) inv (Or.inl ⟨by rfl, ?_⟩) (by assumption) (fun invn => ?_)
          rotate_left
          · (intro w hSw; (try dsimp only at hSw); go_simp; try with_reducible rfl)
          try simp only [List.getElem_toArray, List.getElem_cons_zero, List.getElem_cons_succ, Act.put, List.setIfInBounds_toArray, List.set_cons_zero, List.set_cons_succ]
          clear inv
          have inv := invn
          clear invn
          refine F_one (i := 9) (by kernel_rfl) rfl rfl (by omega) inv (fun K hK => ?_)
          try simp only [List.getElem_toArray, List.getElem_cons_zero, List.getElem_cons_succ]
          go_simp
          refine (l14Steps_any _ _ g a X S _ (HGV.out.keep (below_trans HBW2.out ((Below.refl wr.heap.size wr).drew))) (HAV.out.keep (below_trans HBW2.out ((Below.refl wr.heap.size wr).drew))) HGO.out HAO.out hXl hSl).mono ?_
          rintro e wT ⟨vT, rfl, hoT, hbT⟩
          have HR1 := Lib.hid ((HNS.out.below (Below.refl wr.heap.size wr).drew).below hbT)
          have HOT := Lib.hid (hoT.1)
          have hzT : wr.heap.size ≤ wT.heap.size := hbT.size
          have HBT := Lib.hid (below_trans ((Below.refl wr.heap.size wr).drew) hbT)
          obtain ⟨AT, nT, cT, rfl⟩ := hoT.shape
          refine hK.out _ _ (kB5 hbT hS) (fun hSn invn => ?_)
          try simp only [List.getElem_toArray, List.getElem_cons_zero, List.getElem_cons_succ, Act.put, List.setIfInBounds_toArray, List.set_cons_zero, List.set_cons_succ]
          clear hK K inv hS
          have inv := invn
          have hS := hSn
          clear invn hSn
          refine F_one (i := 10) (by kernel_rfl) rfl rfl (by omega) inv (fun K hK => ?_)
          try simp only [List.getElem_toArray, List.getElem_cons_zero, List.getElem_cons_succ]
          go_simp
          refine hK.out _ _ (kA5 _ hS) (fun hSn invn => ?_)
          try simp only [List.getElem_toArray, List.getElem_cons_zero, List.getElem_cons_succ, Act.put, List.setIfInBounds_toArray, List.set_cons_zero, List.set_cons_succ]
          clear hK K inv hS
          have inv := invn
          have hS := hSn
          clear invn hSn
          refine F_one (i := 11) (by kernel_rfl) rfl rfl (by omega) inv (fun K hK => ?_)
          try simp only [List.getElem_toArray, List.getElem_cons_zero, List.getElem_cons_succ]
          have hus := HNS.out.len
          refine op_append1 cV elPSS rfl _ _ (by rfl) wo.heap.size _ us (.slice AT nT cT) 1 _ (by rfl) (HR1.out.own.alloc _) (by first | rfl | simp) (heap_alloc_new _ _) rfl (by intro u hu; simp only [cV, List.mem_cons, List.not_mem_nil, or_false] at hu; subst hu; rfl) (by omega) (by omega) (by simp; omega) ?_
          intro g2 cp2 w3 hown3 hgr3 hat3 hlt3
          have HW3 := Lib.hid hown3
          have HG3 := Lib.hid hgr3
          have HA3 := Lib.hid hat3
          clear hown3 hgr3 hat3
          refine hK.out _ _ (kG5 HG3.out HN0.out HN0.out HN1.out HN1.out HN1.out hS) (fun hSn invn => ?_)
          try simp only [List.getElem_toArray, List.getElem_cons_zero, List.getElem_cons_succ, Act.put, List.setIfInBounds_toArray, List.set_cons_zero, List.set_cons_succ]
          clear hK K inv hS
          have inv := invn
          have hS := hSn
          clear invn hSn
          refine F_last (i := 12) (by kernel_rfl) rfl rfl (by omega) (by kernel_rfl) (fun K hK => ?_)
          go_simp
          refine hK _ _ ?_
          clear hK K inv hS
          clear q1 q2
          go_wp2_with fail
          go_roundw
          case rel => exact ⟨i + 1, us ++ [.slice AT nT cT], by omega, by go_num, by rw [HPX.out]; exact (HR1.out.below ((Below.refl _ _).alloc (Nat.le_refl _) _)).push (ownsRow_mono (HOT.out.alloc _) hs2) (fun b hb hm => by have h1 := (HNS.out.lt b hm).2; have h2 := (HOT.out.lt b hb).1; have h3 : wr.drew.heap.size = wr.heap.size := rfl; omega) HG3.out (by have h := HW3.out; rwa [show us.length + 1 = i + 1 by omega] at h) (fun g hg => by cases hg; exact HA3.out), ((hb2.trans (HBT.out.mono hs2)).alloc (by omega) _).trans (own_below (HR1.out.own.alloc _) (by simp; omega) HG3.out)⟩
          case measure => simp [intOf]; omega
        · obtain rfl : i = k := by omega
          obtain ⟨N, hNi⟩ : ∃ N, N = i := ⟨_, rfl⟩
          subst hNi
          obtain ⟨w3, rfl⟩ : ∃ w3 : World, w3 = wr := ⟨_, rfl⟩
          have hgn1 := (grOk_iff.1 HGO.out).n1
          have hN1 : 1 ≤ N := by have h := HN.out; rw [h]; exact Nat.mul_pos hgn1 hn1
          have hrow := ownsRow_below HROW.out hb2 (Nat.le_refl _)
          rw [iniL_len] at hrow
          obtain ⟨gD, cD', hvD, hgD, -, -, -⟩ := own_some hrow (by omega)
          injection hvD with e1 _ e3
          subst e1
          subst e3
          have hgDo : gD < wo.heap.size := (HROW.out.lt gD rfl).2
          have hini := SW.ini (ini_SwO (g := g) (y := y) (N := N) hn1 (nextI g a))
          have hnN : ∀ i k, i < N → k ∈ nextI g a i → k < N := fun i k _ hk => by rw [HN.out]; exact nextV_lt (grOk_iff.1 HGO.out) HAO.out hk
          obtain ⟨gN, cN', AN, cN2, rfl, -, hgN3, -, -, -, -⟩ := HNS.out.row cPS_len (psL_at (show 0 < N by omega))
          have hgNo : wo.heap.size ≤ gN := (HNS.out.own.lt gN rfl).1
          rw [psL_len]
          have HROW3 := Lib.hid hrow
          have HINI := Lib.hid hini
          have HNN := Lib.hid hnN
          clear HROW hrow hini hnN m0 m0' HBW hbel hb2 hi
          go_wp2_with fail
          go_loopw [13, 14] (fun cc dd wr => ∃ (d e : Nat) (D : List Int) (ch : Bool), d = e + 1 ∧ cc = .bool ch ∧ dd = .int .i64 (d : Int) ∧ e ≤ N + 1 ∧ SW (nextI g a) (fun i => i ∈ goalsL g a y) N e D ch ∧ wr.ownsRow W0.heap.size 3 1 (.slice (some ⟨gD, 0, none⟩) N cD) N (D.flatMap cI) ∧ Only gD (gD + 1) w3 wr) (fun _ dd _ => N + 3 - (intOf dd).toNat)
          case atStart => exact ⟨1, 0, _, true, rfl, rfl, rfl, by omega, HINI.out, HROW3.out, Only.refl _ _ _⟩
          case round =>
            clear HINI HROW3
            obtain ⟨d, e, D, ch, hde, rfl, rfl, heN, hsw, hrow, hon⟩ := hrel
            have HSW := Lib.hid hsw
            have HROW := Lib.hid hrow
            clear hsw hrow
            cases ch with
            | false =>
              have hD : D = distTo g a (y : Int) := sweep_eq HGO.out HAO.out hy (by rw [← HN.out]; exact HSW.out.1) (by rw [← HN.out]; exact HSW.out.2.2 rfl)
              rw [← HR.out] at hD
              have hown := Own.of_row (xs := D) (ownsRow_mono HROW.out hb0.size) HSW.out.1 rfl
              rw [hD] at hown
              have HO := Lib.hid hown
              have hfin : Below w.heap.size w wr := HBW2.out.trans (hon.below (by have := hb0.size; omega) HBW2.out.size)
              clear hD hown
              go_wp2_with fail
              go_ret
              exact ⟨_, rfl, HO.out, hfin⟩
            | true =>
              obtain ⟨hsi, hci⟩ := HSW.out.enter
              have heN2 := hci.le
              have HSI := Lib.hid hsi
              have HCI := Lib.hid hci
              have HDE := Lib.hid hde
              have hd1 : 1 ≤ d := by omega
              have hdN : d ≤ N + 1 := by omega
              clear hsi hci hde HSW
              go_wp2_with fail
              go_loopw [13, 15] (fun cc ii wr => ∃ (i : Nat) (D : List Int) (ch : Bool), i ≤ N ∧ cc = .bool ch ∧ ii = .int .i64 (i : Int) ∧ SwI (nextI g a) (fun i => i ∈ goalsL g a y) N D e i ch ∧ CI e N D ch ∧ wr.ownsRow W0.heap.size 3 1 (.slice (some ⟨gD, 0, none⟩) N cD) N (D.flatMap cI) ∧ Only gD (gD + 1) w3 wr) (fun _ ii _ => N - (intOf ii).toNat)
              case atStart => exact ⟨0, D, false, Nat.zero_le _, rfl, rfl, HSI.out, HCI.out, HROW.out, hon⟩
              case round =>
                clear HSI HCI HROW hon
                obtain ⟨i, D0, ch0, hi, rfl, rfl, hsi, hci, hrow, hon⟩ := hrel
                have HSI := Lib.hid hsi
                have HCI := Lib.hid hci
                have HROW := Lib.hid hrow
                clear hsi hci hrow
                by_cases hlt : i < N
                · obtain ⟨A7, c7, hc7, hl7, hm7, hs7⟩ := HNS.out.at cPS_len rfl (psL_at hlt)
                  have hlp : (psI g a i).length ≤ 288 := prodSteps_len (grOk_iff.1 HGO.out) a _ _
                  have hnl : (nextI g a i).length = (psI g a i).length := by rw [psI_next, List.length_map]
                  have HNL := Lib.hid hnl
                  have HS7 := Lib.hid hs7
                  have HC7 := Lib.hid hc7
                  clear hnl hs7 hc7
                  go_wp2_with fail
                  go_loopw [13, 16] (fun cc kk wr => ∃ (k : Nat) (D : List Int) (ch : Bool), k ≤ (psI g a i).length ∧ cc = .bool ch ∧ kk = .int .i64 (k : Int) ∧ KI (nextI g a) D0 ch0 e i k D ch ∧ wr.ownsRow W0.heap.size 3 1 (.slice (some ⟨gD, 0, none⟩) N cD) N (D.flatMap cI) ∧ Only gD (gD + 1) w3 wr) (fun _ kk _ => (psI g a i).length - (intOf kk).toNat)
                  case atStart => exact ⟨0, D0, ch0, Nat.zero_le _, rfl, rfl, KI.start, HROW.out, hon⟩
                  case round =>
                    clear HROW hon
                    obtain ⟨k, D, ch, hk, rfl, rfl, hki, hrow, hon⟩ := hrel
                    have hDl : D.length = N := hki.len.trans HSI.out.1
                    have c7w := ocell hon HC7.out hgN3 (.inr (by omega))
                    have hDc := (World.ownsRow.cellAt hrow i (by omega)).trans (flatI_at (getD_of (k := i) (by omega)))
                    obtain ⟨xi, hxi⟩ : ∃ xi, xi = D.getD i 0 := ⟨_, rfl⟩
                    rw [← hxi] at hDc
                    have hcn := hki.cnt HCI.out (by rw [HSI.out.1]; exact hlt)
                    have HKI := Lib.hid hki
                    have HROW := Lib.hid hrow
                    have HXI := Lib.hid hxi
                    have HDL := Lib.hid hDl
                    have HCN := Lib.hid hcn
                    have hii : (i : Int) < (N : Int) := by omega
                    clear hki hrow hxi hDl hcn
                    by_cases hlk : k < (psI g a i).length
                    · by_cases hneg : xi < 0
                      · have hpk : (psI g a i)[k]? = some (psI g a i)[k] := List.getElem?_eq_getElem hlk
                        have hpr := prodSteps_range (grOk_iff.1 HGO.out) HAO.out (List.getElem_mem hlk)
                        generalize (psI g a i)[k] = p at hpk hpr
                        have hnk : (nextI g a i)[k]? = some (psV a.accept.length p) := by rw [psI_next, List.getElem?_map, hpk]; rfl
                        have hvN := HNN.out i _ hlt (List.mem_of_getElem? hnk)
                        obtain ⟨b7, o7, rfl, hb70, hb71, r2, r3⟩ := HS7.out.ps hpk
                        have r2 := ocell hon r2 hb71 (.inr (by omega))
                        have r3 := ocell hon r3 hb71 (.inr (by omega))
                        obtain ⟨pst, z, q⟩ := p
                        simp only at r2 r3 hpr
                        obtain ⟨⟨hz0, hz1⟩, hq0, hq1⟩ := hpr
                        obtain ⟨z, rfl⟩ := Int.eq_ofNat_of_zero_le hz0
                        obtain ⟨q, rfl⟩ := Int.eq_ofNat_of_zero_le hq0
                        obtain ⟨vv, hvv⟩ : ∃ vv, vv = psV a.accept.length (pst, (z : Int), (q : Int)) := ⟨_, rfl⟩
                        have hvv2 : vv = z * a.accept.length + q := by rw [hvv]; simp [psV]
                        rw [← hvv] at hnk hvN
                        obtain ⟨zn, hzn⟩ : ∃ zn, zn = z * a.accept.length := ⟨_, rfl⟩
                        rw [← hzn] at hvv2
                        have m1' : (z : Int) * (a.accept.length : Int) = (zn : Int) := by rw [hzn, Int.natCast_mul]
                        have m2' : (zn : Int) + (q : Int) = (vv : Int) := by omega
                        have m1 : IntKind.i64.wrap ((z : Int) * (a.accept.length : Int)) = (zn : Int) := by rw [m1']; exact IntWalk.i64_in _ (by omega)
                        have m2 : IntKind.i64.wrap ((zn : Int) + (q : Int)) = (vv : Int) := by rw [m2']; exact IntWalk.i64_in _ (by omega)
                        have hvc := (World.ownsRow.cellAt HROW.out vv (by omega)).trans (flatI_at (getD_of (k := vv) (by have := HDL.out; omega)))
                        obtain ⟨dv, hdv⟩ : ∃ dv, dv = D.getD vv 0 := ⟨_, rfl⟩
                        rw [← hdv] at hvc
                        have HDV := Lib.hid hdv
                        have HNK := Lib.hid hnk
                        have m3' : (d : Int) - 1 = (e : Int) := by have := HDE.out; omega
                        have m3 : IntKind.i64.wrap ((d : Int) - 1) = (e : Int) := by rw [m3']; exact IntWalk.i64_in _ (by omega)
                        have hkk : (k : Int) < ((psI g a i).length : Int) := by omega
                        have hvi : (vv : Int) < (N : Int) := by omega
                        clear hvv hvv2 hzn hdv hnk hpk hvN
                        go_wp2_with fail
                        go_quiet (fail)
                        have hdi : i < D0.length := by rw [HSI.out.1]; exact hlt
                        by_cases hdd : dv = (e : Int)
                        · have k1 : (dv == (e : Int)) = true := by rw [hdd]; simp
                          have hit := HKI.out.hit hdi (by rw [← HXI.out]; exact hneg) HNK.out (by rw [← HDV.out]; exact hdd)
                          rw [show (e : Int) + 1 = (d : Int) by have := HDE.out; omega] at hit
                          have hkf := World.ownsRow.frozenAt HROW.out i
                          have hrow2 := (World.ownsRow.stored HROW.out i (.int .i64 (d : Int))).1
                          rw [flatI_set] at hrow2
                          have hon2 := hon.setCell (p := ⟨gD, i, none⟩) (.inl ⟨Nat.le_refl _, Nat.lt_succ_self _⟩) (.int .i64 (d : Int))
                          have HIT := Lib.hid hit
                          have HR2 := Lib.hid hrow2
                          have HON2 := Lib.hid hon2
                          clear hit hrow2 hon2 hdd m1 m2 m3 m1' m2' m3'
                          go_wp2_with fail
                          go_roundw
                          case rel => exact ⟨k + 1, _, true, by omega, rfl, by go_num, HIT.out, HR2.out, HON2.out.drewN _⟩
                          case measure => simp [intOf]; omega
                        · have k1 : (dv == (e : Int)) = false := by simpa using hdd
                          have hit := HKI.out.miss hdi (by rw [← HXI.out]; exact hneg) HNK.out (by rw [← HDV.out]; exact hdd)
                          have HIT := Lib.hid hit
                          clear hit hdd m1 m2 m3 m1' m2' m3'
                          go_wp2_with fail
                          go_roundw
                          case rel => exact ⟨k + 1, D, ch, by omega, rfl, by go_num, HIT.out, HROW.out, hon.drewN _⟩
                          case measure => simp [intOf]; omega
                      · have hfin := HKI.out.fin HSI.out hlt (.inr (by rw [← HXI.out]; exact hneg)) HNN.out
                        have HF := Lib.hid hfin
                        clear hfin
                        go_wp2_with fail
                        go_roundw
                        case rel => exact ⟨i + 1, D, ch, by omega, rfl, by go_num, HF.out, HCN.out, HROW.out, hon⟩
                        case measure => simp [intOf]; omega
                    · have hfin := HKI.out.fin HSI.out hlt (.inl (by have := HNL.out; omega)) HNN.out
                      obtain rfl : k = (psI g a i).length := by omega
                      have HF := Lib.hid hfin
                      clear hfin
                      go_wp2_with fail
                      go_roundw
                      case rel => exact ⟨i + 1, D, ch, by omega, rfl, by go_num, HF.out, HCN.out, HROW.out, hon⟩
                      case measure => simp [intOf]; omega
                · obtain rfl : N = i := by omega
                  have hsw := SW.leave HSI.out HCI.out HNN.out
                  have HSW := Lib.hid hsw
                  clear hsw
                  go_wp2_with fail
                  go_roundw
                  case rel => exact ⟨d + 1, e + 1, D0, ch0, by have := HDE.out; omega, rfl, by go_num, by omega, HSW.out, HROW.out, hon⟩
                  case measure => simp [intOf]; omega
end Go.Proofs.YtpbfdmfkmbdpkaaGreat
