/- The program's turned: rows of numbers turned round. -/
import Derived.Test.YtmlfkledhnlkeaaRows2
import Derived.Test.YtmlfkledhnlkeaaNextM
import Derived.Test.YtmlfkledhnlkeaaKeep
import Derived.Test.YtmlfkledhnlkeaaHeldL
import Derived.Test.YtmlfkledhnlkeaaHelpInt
namespace Go.Proofs.Ytmlfkledhnlkeaa
set_option linter.unusedVariables false
set_option linter.unusedSimpArgs false
open Go.ChangeShapes Go.WideShapes Go.ChangeAt Go.RowKit
attribute [local go_sem] ext_cell ext_frozen ext_lt ext_lt1 ext_lt2 ext_lt3 ltn2 ltn3 ltn13 lts1 lts2 lts3

theorem elIntsT : ElemOk Try.prog 40 22 (.slice none 0 0) 1 24 := ⟨Try.underlying40, by kernel_rfl, rfl, by omega⟩
theorem turn_row_len {N i k M : Nat} {next : Nat → List Nat} {cur row : List Nat} (h : k < N) (hr : (turnTo N next i cur)[k]? = some row) (hn : ∀ m, m < i → (next m).length ≤ M) (hc : cur.length ≤ M) : row.length ≤ (i + 1) * M := by
  rw [turn_at h] at hr
  injection hr with hr
  rw [← hr, List.length_append]
  have h1 : ∀ (l : List Nat) (f : Nat → Option Nat), (l.filterMap f).length ≤ l.length := fun l f => List.length_filterMap_le f l
  have h2 : ∀ j, j ≤ i → ((List.range j).flatMap fun m => (next m).filterMap fun x => if x = k then some m else none).length ≤ j * M := by
    intro j
    induction j with
    | zero => intro _; simp
    | succ j ih =>
      intro hj
      rw [List.range_succ, List.flatMap_append, List.length_append, Nat.succ_mul]
      have h3 := ih (by omega)
      have h4 := h1 (next j) (fun x => if x = k then some j else none)
      have h5 := hn j (by omega)
      simp only [List.flatMap_cons, List.flatMap_nil, List.append_nil]
      omega
  have h6 := h2 i (Nat.le_refl _)
  have h7 := h1 cur (fun x => if x = k then some i else none)
  rw [Nat.succ_mul]
  omega
set_option maxHeartbeats 4000000 in
set_option maxRecDepth 100000 in
theorem turned_any (v : Value) (N : Nat) (next : Nat → List Nat) (w : World) (hv : SSE 0 w.heap.size w cN 1 v ((List.range N).map next)) (hN : N ≤ 60) (hnext : ∀ i, i < N → (next i).length ≤ 288 ∧ ∀ k ∈ next i, k < N) :
    Calls Try.prog 130 #[v] w fun e w' => ∃ v', e = .returned v' ∧ SSE w.heap.size w'.heap.size w' cN 1 v' ((List.range N).map (turnL N next)) ∧ Below w.heap.size w w' := by
  obtain ⟨A5, c5, hv5, hl5, hm5⟩ := hv.shape
  have hlen5 : ((List.range N).map next).length = N := by simp
  rw [hlen5] at hv5 hl5
  subst hv5
  have HV := Lib.hid hv
  have HNX := Lib.hid hnext
  clear hv hnext hlen5
  obtain ⟨R, hR⟩ : ∃ R, R = (List.range N).map (turnL N next) := ⟨_, rfl⟩
  rw [← hR]
  have HR := Lib.hid hR
  clear hR
  go_enter Try.func130, Try.ntmps130
  go_wp2_with (at_make; refine wpList_makeE (P := Try.prog) cV (.slice none 0 0) elIntsT rfl rfl rfl _ _ rfl w.heap.size N _ (by rfl) (by rfl) rfl (by omega) (by unfold maxLen; omega) (by simp) ?_; intro w1 hrow1 hbel1
               have hrw := Rws.made (base := w.heap.size) (α := Nat) (E := cN) (k := 1) (rT := 3) hrow1
               rw [← turn_zero N next] at hrw
               have HRW := Lib.hid hrw
               have hg1 := hrw.gLt.2
               clear hrow1 hrw)
  generalize hgb : w.heap.size = gb at *
  have HGB := Lib.hid hgb
  clear hgb
  go_loopw [13] (fun ii wr => ∃ (i : Nat) (hs : List Value), i ≤ N ∧ ii = .int .i64 (i : Int) ∧ Rws wr gb 22 3 cN 1 gb hs (turnTo N next i []) ∧ Below gb w wr) (fun ii _ => N - (intOf ii).toNat)
  case atStart => exact ⟨0, _, Nat.zero_le _, rfl, HRW.out, hbel1⟩
  case round =>
    clear HRW hbel1
    obtain ⟨i, hs, hi, rfl, hrw, hbel⟩ := hrel
    have HRW := Lib.hid hrw
    clear hrw
    by_cases hlt : i < N
    · obtain ⟨b5, o5, A6, c6, rfl, -, hb5, d5, hl6, hm6, hI6, -⟩ := HV.out.row (by rw [HGB.out]; exact Nat.le_refl _) (i := i) (xs := next i) (by simp [hlt])
      have d5 := (hbel.cell (p := ⟨b5, o5 + i, none⟩) hb5).trans d5
      have hni := HNX.out i hlt
      have HI6 := Lib.hid hI6
      obtain ⟨hnl, hnk⟩ := hni
      have HNK := Lib.hid hnk
      clear hI6 hnk
      go_wp2_with fail
      go_loopw [20] (fun jj wr => ∃ (j : Nat) (hs : List Value), j ≤ (next i).length ∧ jj = .int .i64 (j : Int) ∧ Rws wr gb 22 3 cN 1 gb hs (turnTo N next i ((next i).take j)) ∧ Below gb w wr) (fun jj _ => (next i).length - (intOf jj).toNat)
      case atStart => exact ⟨0, _, Nat.zero_le _, rfl, HRW.out, hbel⟩
      case round =>
        clear d5 HRW hbel
        obtain ⟨j, hs, hj, rfl, hrw, hbel⟩ := hrel
        have HRW := Lib.hid hrw
        clear hrw
        by_cases hlt2 : j < (next i).length
        · have hki : (next i)[j]? = some (next i)[j] := List.getElem?_eq_getElem hlt2
          have hkn := HNK.out _ (List.getElem_mem hlt2)
          generalize (next i)[j] = k at hki hkn
          obtain ⟨b7, o7, rfl, -, hb7, d7⟩ := HI6.out.nat hki
          have d7 := (hbel.cell (p := ⟨b7, o7 + j, none⟩) hb7).trans d7
          have hb7w := Nat.lt_trans hb7 HRW.out.gLt.2
          have hil : k < hs.length := by rw [HRW.out.len, turn_len]; exact hkn
          have hhi : hs[k]? = some hs[k] := List.getElem?_eq_getElem hil
          generalize hs[k] = hv at hhi
          have hcv := HRW.out.cell hhi
          have hfv := HRW.out.frozen k
          have hxr : k < (turnTo N next i ((next i).take j)).length := by rw [turn_len]; exact hkn
          have hxk : (turnTo N next i ((next i).take j))[k]? = some (turnTo N next i ((next i).take j))[k] := List.getElem?_eq_getElem hxr
          generalize (turnTo N next i ((next i).take j))[k] = row at hxk
          have hrl : row.length ≤ 100000 := by
            have h1 := turn_row_len hkn hxk (M := 288) (fun m hm => (HNX.out m (by omega)).1) (by rw [List.length_take]; omega)
            have h2 := Nat.mul_le_mul_right 288 (show i + 1 ≤ 60 by omega)
            omega
          have hro := HRW.out.row k hv row hhi hxk
          have hgw := HRW.out.gLt.2
          have hne1 : some gb ≠ hv.ownBlock := Ne.symm (HRW.out.far _ _ hhi)
          have HRO := Lib.hid hro
          have HHI := Lib.hid hhi
          have HXK := Lib.hid hxk
          have HKI := Lib.hid hki
          have HNE1 := Lib.hid hne1
          clear hro hhi hxk hki hne1
          have hkN : (k : Int) < (N : Int) := by omega
          have hsw := hbel.size
          rw [HGB.out] at hsw
          go_wp2_with (at_builtin; (refine wpList_append2 cN elInt rfl _ _ rfl gb hv row i 1 _ (by rfl) (HRO.out.alloc _) (by rfl) (heap_alloc_new _ _) rfl (cN_one _) (by omega) (by omega) (by simp; omega) ?_); intro g2 cp2 w3 hown3 hgr3 hat3 hlt3
                       have hcz := hgr3.cell (kcell ((Below.refl _ _).alloc (Nat.le_refl _) _) hcv) HNE1.out
                       have hfz := kfg hgr3 (p := ⟨gb, k, none⟩) HNE1.out (kcell ((Below.refl _ _).alloc (Nat.le_refl _) _) hcv) (kfb ((Below.refl _ _).alloc (Nat.le_refl _) _) hcv hfv)
                       have HO3 := Lib.hid hown3
                       have HG3 := Lib.hid hgr3
                       have HA3 := Lib.hid hat3
                       clear hown3 hgr3 hat3)
          have hrF := Rws.push (HRW.out.below (w' := wr.alloc (.cells #[.int .i64 (i : Int)] 3)) ((Below.refl _ _).alloc (Nat.le_refl _) _)) HHI.out HXK.out HO3.out HG3.out rfl HA3.out
          rw [turn_push hkn HXK.out, ← take_snoc HKI.out] at hrF
          have hbF : Below gb w (w3.setCell ⟨gb, k, none⟩ (.slice (some ⟨g2, 0, none⟩) (row.length + 1) cp2)) :=
            ((hbel.alloc (by omega) _).grown HG3.out (by simp; omega) (fun b hb => (HRO.out.lt b hb).1)).setCell (Nat.le_refl _) _
          have HRF := Lib.hid hrF
          have HBF := Lib.hid hbF
          clear hrF hbF hcz hfz
          go_roundw
          case rel => exact ⟨j + 1, _, by omega, by go_num, HRF.out, HBF.out⟩
          case measure => simp [intOf]; omega
        · obtain rfl : j = (next i).length := by omega
          have hall : turnTo N next i ((next i).take (next i).length) = turnTo N next (i + 1) [] := by rw [List.take_length, turn_next]
          rw [hall] at HRW
          clear hall
          go_wp2_with fail
          go_roundw
          case rel => exact ⟨i + 1, _, by omega, by go_num, HRW.out, hbel⟩
          case measure => simp [intOf]; omega
    · obtain rfl : i = N := by omega
      have hs1 := HRW.out
      rw [turn_all] at hs1
      have hln : hs.length = i := by rw [hs1.len]; simp
      have hs2 := hs1.sse cN_len (lo := gb) (Nat.le_refl _) (Nat.le_refl _)
      rw [hln] at hs2
      have HS2 := Lib.hid hs2
      clear hs1 hs2 hln
      go_wp2_with fail
      go_ret
      exact ⟨_, rfl, by rw [HR.out, HGB.out]; exact HS2.out, by rw [HGB.out]; exact hbel⟩
end Go.Proofs.Ytmlfkledhnlkeaa
