/- Parts of the proof, joined into one text: Count, CtrN, NthI, LayM, WalksM, WalksI. -/
import Derived.Test.YtlhpcknpjdeebaaPartDMDMHEEH
import Derived.Test.YtlhpcknpjdeebaaPartFIPIGBAP
import Derived.Deep.LoopGhost
import Derived.Test.YtlhpcknpjdeebaaPartLAIGJDJG
import Derived.Test.YtlhpcknpjdeebaaPartGMACDPJL
import Derived.Test.YtlhpcknpjdeebaaPartHCBNMMEI
/- The program's count of walks, with its memory. -/
namespace Go.Proofs.Ytlhpcknpjdeebaa
set_option linter.unusedVariables false
set_option linter.unusedSimpArgs false
open Go.ChangeShapes Go.WideShapes Go.ChangeAt Go.RowKit Go.Maps
attribute [local go_sem] ext_cell ext_frozen ext_lt ext_lt1 ext_lt2 ext_lt3 ltn2 ltn3 ltn13 lts1 lts2 lts3
theorem cw_zeroS (g : Gr) (a : Au) (y : Int) (x s vx : Nat) (h : valAt g x = vx) : cw g a y 0 x s = if (decide ((x : Int) = y) && acc a s vx) = true then 1 else 0 := by rw [cw, h]
/-- what a call leaves -/
def Left (g : Gr) (a : Au) (y : Int) (f : Nat) (M : List Plc) (bM : Nat) (w w' : World) : Prop := Only bM (bM + 1) w w' ∧ ∃ M', Mem g a y w' bM M' ∧ More f M M'
theorem Left.of_below {g : Gr} {a : Au} {y : Int} {f : Nat} {M : List Plc} {bM : Nat} {w w' : World} (hm : Mem g a y w bM M) (hb : Below w.heap.size w w') : Left g a y f M bM w w' :=
  ⟨Only.of_below hb _ _, M, hm.keep hb, More.refl _ _⟩
theorem Mem.bound {g : Gr} {a : Au} {y : Int} {w : World} {bM : Nat} {M : List Plc} (h : Mem g a y w bM M) : M.length < maxLen := by
  obtain ⟨D, _, h2⟩ := h
  have := h2.len
  unfold maxLen; omega
theorem Mem.lt {g : Gr} {a : Au} {y : Int} {w : World} {bM : Nat} {M : List Plc} (h : Mem g a y w bM M) : bM < w.heap.size := by
  obtain ⟨D, h1, _⟩ := h
  exact h1.lt
theorem keyOfPlc {z : Plc} (hz : plcOk z) : keyOf Try.prog 82 (.agg #[.int .i64 (z.1 : Int), .int .i64 (z.2.1 : Int), .int .i64 (z.2.2 : Int)]) = some (plKey z.1 z.2.1 z.2.2) := by
  unfold plcOk at hz
  exact keyPlace _ _ _ (wf_nat (by omega)) (wf_nat (by omega)) (wf_nat (by omega))
theorem litI_inj {H : Type} {a b : Int} (h : (DataW.lit (.int .i64 a) : DataW H) = .lit (.int .i64 b)) : a = b := by
  injection h with h
  injection h
/-- the look-up, at each world that keeps the memory -/
theorem Mem.look {g : Gr} {a : Au} {y : Int} {w : World} {bM : Nat} {M : List Plc} (h : Mem g a y w bM M) {z : Plc} (hz : plcOk z) :
    (Instr.lookup 100 (.map (some bM)) (.agg #[.int .i64 (z.1 : Int), .int .i64 (z.2.1 : Int), .int .i64 (z.2.2 : Int)]) true).run Try.prog w =
      .ok (.tuple #[.int .i64 (if z ∈ M then (cw g a y z.2.2 z.1 z.2.1 : Int) else 0), .bool (decide (z ∈ M))]) w := by
  obtain ⟨D, h1, h2⟩ := h
  obtain ⟨v, ps, hrun, hv⟩ := h1.look_ok keyedPlace Try.underlying100 (Try.zeroValue3 _) (plainElem_int Try.underlying3 (by decide)) (keyOfPlc hz)
  obtain ⟨c, rfl, hc, -⟩ := plainElem_int_inv Try.underlying3 hv
  have hc := congrArg Prod.fst hc
  simp only at hc
  have hh := h2.has z hz
  rw [hh] at hrun
  rw [hrun]
  by_cases hm : z ∈ M
  · rw [if_pos hm, ← litI_inj ((h2.val z hm).symm.trans hc)]
  · have h3 := Maps.atKey_of_not_has (show Maps.has D (plKey z.1 z.2.1 z.2.2) = false by rw [hh]; exact decide_eq_false hm) (.lit (.int .i64 0))
    rw [if_neg hm, ← litI_inj (h3.symm.trans hc)]
set_option maxHeartbeats 8000000 in
set_option maxRecDepth 100000 in
theorem count_any (g : Gr) (a : Au) (y : Int) (hgo : grOk g = true) (ha : auOk a = true) (bC bM : Nat) : ∀ (lf x s : Nat) (M : List Plc) (w : World), Ctr g a y w bC bM → Mem g a y w bM M → x < g.vals.length → s < 2 ^ a.accept.length → lf ≤ 60 →
    Calls Try.prog 47 #[.pointer (some ⟨bC, 0, none⟩), .agg #[.int .i64 (x : Int), .int .i64 (s : Int), .int .i64 (lf : Int)]] w fun e w' => e = .returned (.int .i64 (cw g a y lf x s : Nat)) ∧ Left g a y lf M bM w w' := by
  intro lf
  induction lf with
  | zero =>
    intro x s M w hc hm hx hs hlf
    have HM := Lib.hid hm
    have hb0 : Below w.heap.size w (w.alloc (.cells #[.int .i64 (x : Int), .int .i64 (s : Int), .int .i64 0] 82)) := (Below.refl _ _).alloc (Nat.le_refl _) _
    by_cases hs0 : s = 0
    · have HR := Lib.hid (show cw g a y 0 x s = 0 by rw [hs0, cw_none])
      subst hs0
      clear hc hm hgo ha
      go_enter Try.func47, Try.ntmps47
      go_wp2_with fail
      go_ret
      exact ⟨by rw [HR.out]; rfl, Left.of_below HM.out hb0⟩
    · obtain ⟨B, lo, hi, A1, A2, A3, A4, A5, c1, c2, c3, c4, c5, hbk, hgv, hav, hlv, h5, h6, h7, h8, h9⟩ := hc
      obtain ⟨vx, hxi, hva, hvx⟩ := valOf hgo hx
      obtain ⟨vs, es, hag, h1, -⟩ := hgv
      injection hag with hag
      simp at hag
      obtain ⟨rfl, rfl⟩ := hag
      obtain ⟨b1, o1, rfl, -, hb1, dv⟩ := h1.intI hxi
      have hs4 := lt12 ha hs
      have z0 : w.cell? ⟨bC, 0, none⟩ = some (.slice (some ⟨b1, o1, none⟩) g.vals.length c1) := hbk.cell 0
      have z2 : w.cell? ⟨bC, 2, none⟩ = some (.int .i64 a.start) := hbk.cell 2
      have z3 : w.cell? ⟨bC, 3, none⟩ = some (.slice A3 a.accept.length c3) := hbk.cell 3
      have z4 : w.cell? ⟨bC, 4, none⟩ = some (.slice A4 a.accept.length c4) := hbk.cell 4
      have z5 : w.cell? ⟨bC, 5, none⟩ = some (.int .i64 y) := hbk.cell 5
      have lC := hbk.lt
      have lC1 : bC < w.heap.size + 1 := by omega
      have hb1w : b1 < w.heap.size := by omega
      have hb1w1 : b1 < w.heap.size + 1 := by omega
      have hxx : (x : Int) < (g.vals.length : Int) := by omega
      have HEND := Lib.hid (fun (W : World) (hW : Below w.heap.size w W) => acceptsAt_any _ a s vx W ((hav.mono (Nat.le_refl _) h8).keep hW) ha hs hvx)
      have hne : ((s : Int) == 0) = false := by simp; omega
      have hne2 : decide ((s : Int) = 0) = false := by simp; omega
      have HC0 := Lib.hid (cw_zeroS g a y x s vx hva)
      clear hbk hav hlv h1 hxi hva hgo ha hm
      by_cases hxy : (x : Int) = y
      · have hd : decide ((x : Int) = y) = true := decide_eq_true hxy
        have hd2 : ((x : Int) == y) = true := by simp [hxy]
        have hbb := HC0.out
        rw [hd, Bool.true_and] at hbb
        generalize acc a s vx = bb at *
        cases bb with
        | true =>
          have HBB := Lib.hid (hbb.trans (if_pos rfl))
          clear hxy HC0 hbb
          go_enter Try.func47, Try.ntmps47
          go_wp2_with fail
          refine wp_region_ext_lit (by kernel_rfl) (by kernel_rfl) ?_
          repeat (go_big_quiet_step ((go_at_call 77; exact Calls.ext_of (HEND.out _ (below_trans hb0 (ext_below _ _))))))
          refine wpQuiet_nil ?_
          intro _ hw'
          obtain ⟨u2, hw''⟩ := hw'
          subst hw''
          go_wp2_with fail
          go_ret
          exact ⟨by rw [HBB.out]; rfl, Left.of_below HM.out (below_trans hb0 (ext_below _ _))⟩
        | false =>
          have HBB := Lib.hid (hbb.trans (if_neg (by simp)))
          clear hxy HC0 hbb
          go_enter Try.func47, Try.ntmps47
          go_wp2_with fail
          refine wp_region_ext_lit (by kernel_rfl) (by kernel_rfl) ?_
          repeat (go_big_quiet_step ((go_at_call 77; exact Calls.ext_of (HEND.out _ (below_trans hb0 (ext_below _ _))))))
          refine wpQuiet_nil ?_
          intro _ hw'
          obtain ⟨u2, hw''⟩ := hw'
          subst hw''
          go_wp2_with fail
          go_ret
          exact ⟨by rw [HBB.out]; rfl, Left.of_below HM.out (below_trans hb0 (ext_below _ _))⟩
      · have hd : decide ((x : Int) = y) = false := decide_eq_false hxy
        have hd2 : ((x : Int) == y) = false := by simp [hxy]
        have HBB := Lib.hid (show cw g a y 0 x s = 0 from HC0.out.trans (by rw [hd, Bool.false_and]; simp))
        clear hxy HC0
        go_enter Try.func47, Try.ntmps47
        go_wp2_with fail
        refine wp_region_ext_lit (by kernel_rfl) (by kernel_rfl) ?_
        repeat (go_big_quiet_step (fail))
        refine wpQuiet_nil ?_
        intro _ hw'
        obtain ⟨u2, hw''⟩ := hw'
        subst hw''
        go_wp2_with fail
        go_ret
        exact ⟨by rw [HBB.out]; rfl, Left.of_below HM.out (below_trans hb0 (ext_below _ _))⟩
  | succ lf ih =>
    intro x s M w hc hm hx hs hlf
    obtain ⟨L1, hL1⟩ : ∃ L1, L1 = lf + 1 := ⟨_, rfl⟩
    have HNX := Lib.hid (fun (l : Nat) (t sid : Int) (sinv : Bool) (W : World) (hW : Ctr g a y W bC bM) (hl : l < 9) => next_any g a y hgo ha bC bM x s lf l t sid sinv W hW hx hs (by omega) hl)
    rw [← hL1] at hlf HNX ⊢
    have hL1a : lf + 1 ≤ L1 := by omega
    have hL1b : L1 ≤ lf + 1 := by omega
    have HM := Lib.hid hm
    have HCT := Lib.hid hc
    have hbMw := hm.lt
    have hbCM : bC ≠ bM := by obtain ⟨_, _, _, _, _, _, _, _, _, _, _, _, _, h⟩ := hc; exact h.2.2.2.2.2.2.2.2
    have hb0 : Below w.heap.size w (w.alloc (.cells #[.int .i64 (x : Int), .int .i64 (s : Int), .int .i64 (L1 : Int)] 82)) := (Below.refl _ _).alloc (Nat.le_refl _) _
    have hs4 := lt12 ha hs
    have hn5 := (grOk_iff.1 hgo).n5
    by_cases hs0 : s = 0
    · have HR := Lib.hid (show cw g a y L1 x s = 0 by rw [hs0, cw_none])
      subst hs0
      clear hc hm hgo ha ih hL1 HNX
      go_enter Try.func47, Try.ntmps47
      go_wp2_with fail
      go_ret
      exact ⟨by rw [HR.out]; rfl, Left.of_below HM.out hb0⟩
    · have hz : plcOk (x, s, L1) := ⟨by simp only; omega, by simp only; omega, by simp only; omega⟩
      have hlk : ∀ u, (Instr.lookup 100 (.map (some bM)) (.agg #[.int .i64 (x : Int), .int .i64 (s : Int), .int .i64 (L1 : Int)]) true).run Try.prog (ext (w.alloc (.cells #[.int .i64 (x : Int), .int .i64 (s : Int), .int .i64 (L1 : Int)] 82)) u) =
          .ok (.tuple #[.int .i64 (if (x, s, L1) ∈ M then (cw g a y L1 x s : Int) else 0), .bool (decide ((x, s, L1) ∈ M))]) (ext (w.alloc (.cells #[.int .i64 (x : Int), .int .i64 (s : Int), .int .i64 (L1 : Int)] 82)) u) :=
        fun u => ((hm.keep hb0).keep (ext_below _ u)).look hz
      obtain ⟨B, lo, hi, A1, A2, A3, A4, A5, c1, c2, c3, c4, c5, hbk, hgv, hav, hlv, h5, h6, h7, h8, h9⟩ := hc
      have z7 : w.cell? ⟨bC, 7, none⟩ = some (.map (some bM)) := hbk.cell 7
      have z6 : w.cell? ⟨bC, 6, none⟩ = some (.slice A5 g.vals.length c5) := hbk.cell 6
      have lC := hbk.lt
      have lC1 : bC < w.heap.size + 1 := by omega
      have hne : ((s : Int) == 0) = false := by simp; omega
      have hne2 : decide ((s : Int) = 0) = false := by simp; omega
      have hl0 : ((L1 : Int) == 0) = false := by simp; omega
      have hl1 : decide ((L1 : Int) = 0) = false := by simp; omega
      by_cases hmem : (x, s, L1) ∈ M
      · rw [if_pos hmem, decide_eq_true hmem] at hlk
        generalize cw g a y L1 x s = C at *
        clear hbk hgv hav hlv hgo ha ih hL1 HNX hm hmem hz
        go_enter Try.func47, Try.ntmps47
        go_wp2_with fail
        refine wp_region_ext_lit (by kernel_rfl) (by kernel_rfl) ?_
        repeat (go_big_quiet_step (fail))
        refine wpQuiet_nil ?_
        intro _ hw'
        obtain ⟨u2, hw''⟩ := hw'
        subst hw''
        go_wp2_with fail
        go_ret
        exact ⟨rfl, Left.of_below HM.out (below_trans hb0 (ext_below _ _))⟩
      · rw [if_neg hmem, decide_eq_false hmem] at hlk
        have HNM := Lib.hid hmem
        have HZ := Lib.hid hz
        have hA5 : ∃ b5 o5, A5 = some ⟨b5, o5, none⟩ ∧ b5 < w.heap.size ∧ ∃ A7 c7, w.cell? ⟨b5, o5 + x, none⟩ = some (.slice A7 (arcsOf g (x : Int)).length c7) ∧ (arcsOf g (x : Int)).length ≤ c7 ∧ c7 ≤ 9223372036854775807 ∧ SlI lo hi w cA 4 (.slice A7 (arcsOf g (x : Int)).length c7) (arcsOf g (x : Int)) := by
          obtain ⟨b5, o5, A7, c7, e1, e2, e3, e4, e5, e6, e7, -⟩ := hlv.row h7 (i := x) (xs := arcsOf g (x : Int)) (by simp [hx])
          exact ⟨b5, o5, e1, by omega, A7, c7, e4, e5, e6, e7⟩
        obtain ⟨b5, o5, rfl, hb5, A7, c7, d5, hl7, hm7, hI7⟩ := hA5
        have hal := arcs_len (grOk_iff.1 hgo) (x : Int)
        have hxx : (x : Int) < (g.vals.length : Int) := by omega
        have hb51 : b5 < w.heap.size + 1 := by omega
        have HI7 := Lib.hid hI7
        have HREC := Lib.hid ih
        have HGO := Lib.hid hgo
        have HA := Lib.hid ha
        have HALL := Lib.hid (cwTo_all g a y lf x s)
        rw [← hL1] at HALL
        have HL := Lib.hid hL1
        clear hbk hgv hav hlv hgo ha ih hL1 hm hmem hz hI7
        go_enter Try.func47, Try.ntmps47
        go_upto_region 7 with fail
        refine wp_region_ext_lit (by kernel_rfl) (by kernel_rfl) ?_
        repeat (go_big_quiet_step (fail))
        refine wpQuiet_nil ?_
        intro _ hw'
        obtain ⟨u2, hw''⟩ := hw'
        subst hw''
        clear hlk
        go_upto_region 11 with fail
        refine wp_region_ext_lit (by kernel_rfl) (by kernel_rfl) ?_
        repeat (go_big_quiet_step (fail))
        refine wpQuiet_nil ?_
        intro _ hw'
        obtain ⟨u3, hw''⟩ := hw'
        subst hw''
        go_wp2_with fail
        obtain ⟨W1, hW1⟩ : ∃ W1, W1 = ext (ext (w.alloc (.cells #[.int .i64 (x : Int), .int .i64 (s : Int), .int .i64 (L1 : Int)] 82)) u2) u3 := ⟨_, rfl⟩
        have hbU := below_trans (ext_below (w.alloc (.cells #[.int .i64 (x : Int), .int .i64 (s : Int), .int .i64 (L1 : Int)] 82)) u2) (ext_below _ u3)
        have hbW := below_trans hb0 hbU
        rw [← hW1] at hbU hbW ⊢
        have e0 : W1.cell? ⟨w.heap.size, 0, none⟩ = some (.int .i64 (x : Int)) := kcell hbU (by simp)
        have e1 : W1.cell? ⟨w.heap.size, 1, none⟩ = some (.int .i64 (s : Int)) := kcell hbU (by simp)
        have e2 : W1.cell? ⟨w.heap.size, 2, none⟩ = some (.int .i64 (L1 : Int)) := kcell hbU (by simp)
        have lE : w.heap.size < W1.heap.size := by have := hbU.size; simp at this; omega
        have HM1 := Lib.hid (HM.out.keep hbW)
        have HC1 := Lib.hid (HCT.out.keep hbW)
        have z7 := kcell hbW z7
        have HBW := Lib.hid hbW
        clear hW1 hbU hbW d5 z6 hb0 HCT lC1 hb51
        go_loopw [7, 61] (fun nn ii wr => ∃ (i : Nat) (M' : List Plc), i ≤ (arcsOf g (x : Int)).length ∧ ii = .int .i64 (i : Int) ∧ nn = .int .i64 (cwTo g a y lf x s i : Nat) ∧ Only bM (bM + 1) W1 wr ∧ Mem g a y wr bM M' ∧ More lf M M') (fun _ ii _ => (arcsOf g (x : Int)).length - (intOf ii).toNat)
        case atStart => exact ⟨0, M, Nat.zero_le _, rfl, rfl, Only.refl _ _ _, HM1.out, More.refl _ _⟩
        case round =>
          clear HM1
          obtain ⟨i, M', hi, rfl, rfl, hon, hmm, hmo⟩ := hrel
          have hsz := hon.size
          have e0 := ocell hon e0 lE (.inr (by omega))
          have e1 := ocell hon e1 lE (.inr (by omega))
          have e2 := ocell hon e2 lE (.inr (by omega))
          have lEr : w.heap.size < wr.heap.size := by omega
          have HON := Lib.hid hon
          have HMM := Lib.hid hmm
          have HMO := Lib.hid hmo
          have hcle := cwTo_le g a y lf x s i
          by_cases hlt : i < (arcsOf g (x : Int)).length
          · have hyi : (arcsOf g (x : Int))[i]? = some (arcsOf g (x : Int))[i] := List.getElem?_eq_getElem hlt
            have hyr := arc_range (grOk_iff.1 HGO.out) (List.getElem_mem hlt)
            generalize (arcsOf g (x : Int))[i] = p at hyi hyr
            obtain ⟨⟨sid, sinv⟩, l, t⟩ := p
            simp only at hyr
            obtain ⟨l, rfl⟩ := Int.eq_ofNat_of_zero_le hyr.1.1
            obtain ⟨t, rfl⟩ := Int.eq_ofNat_of_zero_le hyr.2.1
            obtain ⟨b7, o7, rfl, hb7l, hb7, k0, k1, k2, k3⟩ := HI7.out.arc hyi
            simp only at k0 k1 k2 k3
            have hb7M : b7 < bM ∨ bM + 1 ≤ b7 := by omega
            have hb71 := Nat.lt_of_lt_of_le (show b7 < w.heap.size by omega) HBW.out.size
            have k0 := ocell hon (kcell HBW.out k0) hb71 hb7M
            have k1 := ocell hon (kcell HBW.out k1) hb71 hb7M
            have k2 := ocell hon (kcell HBW.out k2) hb71 hb7M
            have k3 := ocell hon (kcell HBW.out k3) hb71 hb7M
            have hb7w : b7 < wr.heap.size := by omega
            have hts : cwTo g a y lf x s (i + 1) = min 1000000 (cwTo g a y lf x s i + cw g a y lf t (aft a s (valAt g x) l)) := by
              rw [cwTo_succ hyi, cwStep]; simp
            have hAF := aft_lt HA.out s (valAt g x) l
            have hcl2 := cw_le g a y lf t (aft a s (valAt g x) l)
            have HNC := Lib.hid (fun (W : World) (hW : Ctr g a y W bC bM) => HNX.out l (t : Int) sid sinv W hW (by omega))
            have HRC := Lib.hid (fun (W : World) (h1 : Ctr g a y W bC bM) (h2 : Mem g a y W bM M') => HREC.out t (aft a s (valAt g x) l) M' W h1 h2 (by omega) hAF (by omega))
            generalize aft a s (valAt g x) l = AF at *
            have hbE : Below wr.heap.size wr (wr.alloc (.cells #[.int .i64 sid, .bool sinv, .int .i64 (l : Int), .int .i64 (t : Int)] 104)) := (Below.refl _ _).alloc (Nat.le_refl _) _
            have hii : (i : Int) < ((arcsOf g (x : Int)).length : Int) := by omega
            have HTS := Lib.hid hts
            clear hts hyi hon hmm hmo
            generalize cwTo g a y lf x s i = m1 at *
            generalize cw g a y lf t AF = CC at *
            go_wp2_with fail
            refine (HNC.out _ ((HC1.out.only HON.out).keep hbE)).mono ?_
            rintro en w3 ⟨rfl, hb3⟩
            have hb3' := below_trans hbE hb3
            have HC3 := Lib.hid ((HC1.out.only HON.out).keep hb3')
            have HM3 := Lib.hid (HMM.out.keep hb3')
            have HO3 := Lib.hid (HON.out.trans (Only.of_below hb3' bM (bM + 1)))
            clear hb3 hb3' k0 k1 k2 k3
            go_wp2_with fail
            refine (HRC.out _ HC3.out HM3.out).mono ?_
            rintro en w4 ⟨rfl, hon4, M4, hm4, hmo4⟩
            have HO4 := Lib.hid (HO3.out.trans hon4)
            have HM4 := Lib.hid hm4
            have HMO4 := Lib.hid (HMO.out.trans hmo4)
            clear hon4 hm4 hmo4
            go_wp2_with fail
            go_roundw
            case rel => exact ⟨i + 1, M4, by omega, by go_num, by rw [HTS.out]; exact congrArg (Value.int IntKind.i64) (by split <;> omega), HO4.out, HM4.out, HMO4.out⟩
            case measure => simp [intOf]; omega
          · obtain rfl : i = (arcsOf g (x : Int)).length := by omega
            rw [HALL.out] at hcle ⊢
            generalize hCW : cw g a y L1 x s = CW at *
            have z7 := ocell hon z7 (by omega) (by omega)
            have lCr : bC < wr.heap.size := by omega
            have HCW := Lib.hid hCW
            clear hon hmm hmo hCW HALL
            go_upto_region 16 with fail
            refine F_start 6 (fun w' => w'.cell? ⟨bC, 7, none⟩ = some (.map (some bM)) ∧ w'.cell? ⟨w.heap.size, 0, none⟩ = some (.int .i64 (x : Int)) ∧ w'.cell? ⟨w.heap.size, 1, none⟩ = some (.int .i64 (s : Int)) ∧ w'.cell? ⟨w.heap.size, 2, none⟩ = some (.int .i64 (L1 : Int))) (by kernel_rfl) (by exact ⟨z7, e0, e1, e2⟩) (fun hS inv => ?_)
            refine F_take (i := 0) (v := ?_) rfl (by kernel_rfl) (by kernel_rfl) (by kernel_rfl) (fun _ _ _ h => h) inv (Or.inl ⟨by rfl, ?_⟩) (by assumption) (fun invn => ?_)
            rotate_left
            · (intro w hSw; (try dsimp only at hSw); go_simp; try with_reducible rfl)
            try simp only [List.getElem_toArray, List.getElem_cons_zero, List.getElem_cons_succ, Act.put, List.setIfInBounds_toArray, List.set_cons_zero, List.set_cons_succ]
            clear inv
            have inv := invn
            clear invn
            refine F_take (i := 1) (v := ?_) rfl (by kernel_rfl) (by kernel_rfl) (by kernel_rfl) (fun _ _ _ h => h) inv (Or.inl ⟨by rfl, ?_⟩) (by assumption) (fun invn => ?_)
            rotate_left
            · (intro w hSw; (try dsimp only at hSw); go_simp; try with_reducible rfl)
            try simp only [List.getElem_toArray, List.getElem_cons_zero, List.getElem_cons_succ, Act.put, List.setIfInBounds_toArray, List.set_cons_zero, List.set_cons_succ]
            clear inv
            have inv := invn
            clear invn
            refine F_take (i := 2) (v := ?_) rfl (by kernel_rfl) (by kernel_rfl) (by kernel_rfl) (fun _ _ _ h => h) inv (Or.inl ⟨by rfl, ?_⟩) (by assumption) (fun invn => ?_)
            rotate_left
            · (intro w hSw; (try dsimp only at hSw); go_simp; try with_reducible rfl)
            try simp only [List.getElem_toArray, List.getElem_cons_zero, List.getElem_cons_succ, Act.put, List.setIfInBounds_toArray, List.set_cons_zero, List.set_cons_succ]
            clear inv
            have inv := invn
            clear invn
            refine F_take (i := 3) (v := ?_) rfl (by kernel_rfl) (by kernel_rfl) (by kernel_rfl) (fun _ _ _ h => h) inv (Or.inl ⟨by rfl, ?_⟩) (by assumption) (fun invn => ?_)
            rotate_left
            · (intro w hSw; (try dsimp only at hSw); go_simp; try with_reducible rfl)
            try simp only [List.getElem_toArray, List.getElem_cons_zero, List.getElem_cons_succ, Act.put, List.setIfInBounds_toArray, List.set_cons_zero, List.set_cons_succ]
            clear inv
            have inv := invn
            clear invn
            refine F_take (i := 4) (v := ?_) rfl (by kernel_rfl) (by kernel_rfl) (by kernel_rfl) (fun _ _ _ h => h) inv (Or.inl ⟨by rfl, ?_⟩) (by assumption) (fun invn => ?_)
            rotate_left
            · (intro w hSw; (try dsimp only at hSw); go_simp; try with_reducible rfl)
            try simp only [List.getElem_toArray, List.getElem_cons_zero, List.getElem_cons_succ, Act.put, List.setIfInBounds_toArray, List.set_cons_zero, List.set_cons_succ]
            clear inv
            have inv := invn
            clear invn
            refine F_take (i := 5) (v := ?_) rfl (by kernel_rfl) (by kernel_rfl) (by kernel_rfl) (fun _ _ _ h => h) inv (Or.inl ⟨by rfl, ?_⟩) (by assumption) (fun invn => ?_)
            rotate_left
            · (intro w hSw; (try dsimp only at hSw); go_simp; try with_reducible rfl)
            try simp only [List.getElem_toArray, List.getElem_cons_zero, List.getElem_cons_succ, Act.put, List.setIfInBounds_toArray, List.set_cons_zero, List.set_cons_succ]
            clear inv
            have inv := invn
            clear invn
            obtain ⟨D', hD1, hD2⟩ := HMM.out
            have hln := hD2.len
            have hnz : (x, s, L1) ∉ M' := by
              obtain ⟨T, hT, hTl⟩ := HMO.out
              rw [hT, List.mem_append]
              rintro (h | h)
              · exact HNM.out h
              · have := hTl _ h; simp only at this; omega
            refine F_last (i := 6) (by kernel_rfl) rfl rfl (by omega) (by kernel_rfl) (fun K hK => ?_)
            refine op_mapUpdate_own _ _ _ _ _ rfl _ _ keyedPlace Try.underlying100 (plainElem Try.prog 3) _ _ _ (by rfl) hD1.drew (by unfold maxLen; omega) _ _ _ (by rfl) (by rfl) (keyOfPlc HZ.out) _ _ (plainElem_int Try.underlying3 (wf_nat (by omega))) ?_
            intro w9 hown9 hgr9
            refine hK _ _ ?_
            clear hK K inv hS
            try simp only [List.getElem_toArray, List.getElem_cons_zero, List.getElem_cons_succ, Act.put, List.setIfInBounds_toArray, List.set_cons_zero, List.set_cons_succ]
            have hput := hD2.put HZ.out hnz
            simp only at hput
            rw [HCW.out] at hput
            have hm9 : Mem g a y w9 bM (M' ++ [(x, s, L1)]) := ⟨_, by rw [List.length_append]; exact hown9, hput⟩
            have ho9 : Only bM (bM + 1) wr w9 := ⟨hgr9.os, hgr9.tape, hgr9.output, hgr9.size, fun n hn ho => hgr9.block n hn (fun e => by injection e with e; omega)⟩
            have HO9 := Lib.hid ((Only.of_below HBW.out bM (bM + 1)).trans (HON.out.trans ho9))
            have HM9 := Lib.hid hm9
            have HMO9 := Lib.hid (show More L1 M (M' ++ [(x, s, L1)]) from (HMO.out.mono (by omega)).trans ⟨[(x, s, L1)], rfl, fun z hz => by rw [List.mem_singleton] at hz; subst hz; exact Nat.le_refl _⟩)
            clear hown9 hgr9 hm9 ho9 hput hnz hD1 hD2
            go_wp2_with fail
            go_ret
            exact ⟨by rw [HCW.out]; rfl, HO9.out, _, HM9.out, HMO9.out⟩
end Go.Proofs.Ytlhpcknpjdeebaa

/- The program's newCounter and start. -/
namespace Go.Proofs.Ytlhpcknpjdeebaa
set_option linter.unusedVariables false
set_option linter.unusedSimpArgs false
open Go.ChangeShapes Go.WideShapes Go.ChangeAt Go.RowKit Go.Maps
attribute [local go_sem] ext_cell ext_frozen ext_lt ext_lt1 ext_lt2 ext_lt3 ltn2 ltn3 ltn13 lts1 lts2 lts3
theorem Mem.new (g : Gr) (a : Au) (y : Int) (w : World) : Mem g a y (w.alloc (.map #[] 0)) w.heap.size [] := ⟨.map [], World.ownsMap_made w _ _ _, MemD.empty g a y⟩
set_option maxHeartbeats 4000000 in
set_option maxRecDepth 100000 in
theorem newCounter_any (v1 v2 : Value) (g : Gr) (a : Au) (y : Int) (w : World) (hgv : GrV 0 w.heap.size w v1 g) (hav : AuV 0 w.heap.size w v2 a) (hgo : grOk g = true) (ha : auOk a = true) :
    Calls Try.prog 45 #[v1, v2, .int .i64 y] w fun e w' => ∃ bC bM, e = .returned (.pointer (some ⟨bC, 0, none⟩)) ∧ w.heap.size ≤ bM ∧ Ctr g a y w' bC bM ∧ Mem g a y w' bM [] ∧ Below w.heap.size w w' := by
  have hgv0 := hgv
  have hav0 := hav
  obtain ⟨A1, c1, A2, c2, rfl, hl1, hm1, hl2, hm2, -, -⟩ := hgv.form
  obtain ⟨A3, c3, A4, c4, rfl, hl3, hm3, hl4, hm4, -⟩ := hav.form ha
  have hb0 : Below w.heap.size w ((w.alloc (.cells #[.slice A1 g.vals.length c1, .slice A2 g.edges.length c2] 39)).alloc (.cells #[.int .i64 a.start, .slice A3 a.accept.length c3, .slice A4 a.accept.length c4] 41)) := ((Below.refl _ _).alloc (Nat.le_refl _) _).alloc (by simp) _
  have HGV := Lib.hid hgv0
  have HAV := Lib.hid hav0
  have HAR := Lib.hid (fun (W : World) (hW : Below w.heap.size w W) => arcs_any _ g W (HGV.out.keep hW) (grOk_iff.1 hgo))
  clear hgv hav hgv0 hav0 hgo ha
  have hmm := @run_makeMap Try.prog
  go_enter Try.func45, Try.ntmps45
  go_upto_region 1 with fail
  obtain ⟨W0, hW0⟩ : ∃ W0, W0 = ((w.alloc (.cells #[.slice A1 g.vals.length c1, .slice A2 g.edges.length c2] 39)).alloc (.cells #[.int .i64 a.start, .slice A3 a.accept.length c3, .slice A4 a.accept.length c4] 41)) := ⟨_, rfl⟩
  rw [← hW0] at hb0 ⊢
  have x0 : W0.cell? ⟨w.heap.size, 0, none⟩ = some (.slice A1 g.vals.length c1) := by rw [hW0]; simp
  have x1 : W0.cell? ⟨w.heap.size, 1, none⟩ = some (.slice A2 g.edges.length c2) := by rw [hW0]; simp
  have y0 : W0.cell? ⟨w.heap.size + 1, 0, none⟩ = some (.int .i64 a.start) := by rw [hW0]; simp
  have y1 : W0.cell? ⟨w.heap.size + 1, 1, none⟩ = some (.slice A3 a.accept.length c3) := by rw [hW0]; simp
  have y2 : W0.cell? ⟨w.heap.size + 1, 2, none⟩ = some (.slice A4 a.accept.length c4) := by rw [hW0]; simp
  have hs0 : w.heap.size + 1 + 1 = W0.heap.size := by rw [hW0]; simp
  try rw [hs0]
  have l0 : w.heap.size + 1 < W0.heap.size := by omega
  have l00 : w.heap.size < W0.heap.size := by omega
  clear hW0 hs0
  have hbD := below_trans hb0 ((Below.refl W0.heap.size W0).drew)
  refine F_start 7 (fun w' => w'.cell? ⟨w.heap.size, 0, none⟩ = some (.slice A1 g.vals.length c1) ∧ w'.cell? ⟨w.heap.size, 1, none⟩ = some (.slice A2 g.edges.length c2) ∧ w'.cell? ⟨w.heap.size + 1, 0, none⟩ = some (.int .i64 a.start) ∧ w'.cell? ⟨w.heap.size + 1, 1, none⟩ = some (.slice A3 a.accept.length c3) ∧ w'.cell? ⟨w.heap.size + 1, 2, none⟩ = some (.slice A4 a.accept.length c4)) (by kernel_rfl) (by exact ⟨x0, x1, y0, y1, y2⟩) (fun hS inv => ?_)
  refine F_take (i := 0) (v := ?_) rfl (by kernel_rfl) (by kernel_rfl) (by kernel_rfl) (fun _ _ _ h => h) inv (Or.inl ⟨by rfl, ?_⟩) (by assumption) (fun invn => ?_)
  rotate_left
  · (intro w hSw; (try dsimp only at hSw); go_simp; try with_reducible rfl)
  try simp only [List.getElem_toArray, List.getElem_cons_zero, List.getElem_cons_succ, Act.put, List.setIfInBounds_toArray, List.set_cons_zero, List.set_cons_succ]
  clear inv
  have inv := invn
  clear invn
  refine F_take (i := 1) (v := ?_) rfl (by kernel_rfl) (by kernel_rfl) (by kernel_rfl) (fun _ _ _ h => h) inv (Or.inl ⟨by rfl, ?_⟩) (by assumption) (fun invn => ?_)
  rotate_left
  · (intro w hSw; (try dsimp only at hSw); go_simp; try with_reducible rfl)
  try simp only [List.getElem_toArray, List.getElem_cons_zero, List.getElem_cons_succ, Act.put, List.setIfInBounds_toArray, List.set_cons_zero, List.set_cons_succ]
  clear inv
  have inv := invn
  clear invn
  refine F_take (i := 2) (v := ?_) rfl (by kernel_rfl) (by kernel_rfl) (by kernel_rfl) (fun _ _ _ h => h) inv (Or.inl ⟨by rfl, ?_⟩) (by assumption) (fun invn => ?_)
  rotate_left
  · (intro w hSw; (try dsimp only at hSw); go_simp; try with_reducible rfl)
  try simp only [List.getElem_toArray, List.getElem_cons_zero, List.getElem_cons_succ, Act.put, List.setIfInBounds_toArray, List.set_cons_zero, List.set_cons_succ]
  clear inv
  have inv := invn
  clear invn
  refine F_take (i := 3) (v := ?_) rfl (by kernel_rfl) (by kernel_rfl) (by kernel_rfl) (fun _ _ _ h => h) inv (Or.inl ⟨by rfl, ?_⟩) (by assumption) (fun invn => ?_)
  rotate_left
  · (intro w hSw; (try dsimp only at hSw); go_simp; try with_reducible rfl)
  try simp only [List.getElem_toArray, List.getElem_cons_zero, List.getElem_cons_succ, Act.put, List.setIfInBounds_toArray, List.set_cons_zero, List.set_cons_succ]
  clear inv
  have inv := invn
  clear invn
  have hS0 := hS
  refine F_two (i := 4) (j := 5) (by kernel_rfl) rfl rfl rfl rfl (by omega) inv (fun K hK => ?_) (fun K hK => ?_)
  all_goals (try simp only [List.getElem_toArray, List.getElem_cons_zero, List.getElem_cons_succ])
  · go_simp
    refine (HAR.out _ hbD).mono ?_
    rintro en wA ⟨vA, rfl, hsse, hbA⟩
    obtain ⟨A5, c5, hv5, hl5, hm5⟩ := hsse.shape
    have hlen5 : ((List.range g.vals.length).map fun (x : Nat) => arcsOf g (x : Int)).length = g.vals.length := by simp
    rw [hlen5] at hv5 hl5
    subst hv5
    have hbDA := below_trans hbD hbA
    have HSSE := Lib.hid hsse
    have hsA := hbA.size
    clear hsse hlen5
    refine hK.out _ _ (kB5 hbA hS) (fun hSn invn => ?_)
    try simp only [List.getElem_toArray, List.getElem_cons_zero, List.getElem_cons_succ, Act.put, List.setIfInBounds_toArray, List.set_cons_zero, List.set_cons_succ]
    clear hK K inv hS
    have inv := invn
    have hS := hSn
    clear invn hSn
    refine F_one (i := 5) (by kernel_rfl) rfl rfl (by omega) inv (fun K hK => ?_)
    try simp only [List.getElem_toArray, List.getElem_cons_zero, List.getElem_cons_succ]
    go_simp
    have hbM : Below wA.heap.size wA (wA.alloc (.map #[] 0)) := (Below.refl _ _).alloc (Nat.le_refl _) _
    have HMM := Lib.hid (Mem.new g a y wA)
    refine hK.out _ _ (kA5 _ hS) (fun hSn invn => ?_)
    try simp only [List.getElem_toArray, List.getElem_cons_zero, List.getElem_cons_succ, Act.put, List.setIfInBounds_toArray, List.set_cons_zero, List.set_cons_succ]
    clear hK K inv hS
    have inv := invn
    have hS := hSn
    clear invn hSn
    refine F_take (i := 6) (v := ?_) rfl (by kernel_rfl) (by kernel_rfl) (by kernel_rfl) (fun _ _ _ h => h) inv (Or.inl ⟨by rfl, ?_⟩) (by assumption) (fun invn => ?_)
    rotate_left
    · (intro w hSw; (try dsimp only at hSw); go_simp; try with_reducible rfl)
    try simp only [List.getElem_toArray, List.getElem_cons_zero, List.getElem_cons_succ, Act.put, List.setIfInBounds_toArray, List.set_cons_zero, List.set_cons_succ]
    clear inv
    have inv := invn
    clear invn
    refine F_tail (i := 7) (by kernel_rfl) rfl rfl (by omega) (fun K hK => ?_)
    try simp only [List.getElem_toArray, List.getElem_cons_zero, List.getElem_cons_succ]
    go_simp
    refine hK.out _ _ ?_
    try simp only [List.getElem_toArray, List.getElem_cons_zero, List.getElem_cons_succ, Act.put, List.setIfInBounds_toArray, List.set_cons_zero, List.set_cons_succ]
    clear hK K inv hS
    refine F_last (i := 8) (by kernel_rfl) rfl rfl (by omega) (by kernel_rfl) (fun K hK => ?_)
    go_simp
    refine hK _ _ ?_
    clear hK K
    go_wp2_with fail
    have hbX : Below (wA.alloc (.map #[] 0)).heap.size (wA.alloc (.map #[] 0)) ((wA.alloc (.map #[] 0)).alloc (.cells #[.slice A1 g.vals.length c1, .slice A2 g.edges.length c2, .int .i64 a.start, .slice A3 a.accept.length c3, .slice A4 a.accept.length c4, .int .i64 y, .slice A5 g.vals.length c5, .map (some wA.heap.size)] 102)) := (Below.refl _ _).alloc (Nat.le_refl _) _
    have hbY := below_trans hbDA (below_trans hbM hbX)
    have hbZ := below_trans hbM hbX
    have hsw := hbD.size
    have hszz := hbZ.size
    go_ret
    exact ⟨_, wA.heap.size, rfl, Nat.le_trans hsw hsA, ⟨w.heap.size, _, wA.heap.size, A1, A2, A3, A4, A5, c1, c2, c3, c4, c5, Blk.new _ _ _ _ (by simp), HGV.out.below hbY (Nat.le_refl _), HAV.out.below hbY (Nat.le_refl _), HSSE.out.below hbZ (Nat.le_refl _), Nat.le_trans hsw hsA, .inl (Nat.le_refl _), hszz, hbY.size, by simp⟩, HMM.out.keep hbX, hbY⟩
  · go_simp
    have hbM : Below W0.drew.heap.size W0.drew (W0.drew.alloc (.map #[] 0)) := (Below.refl _ _).alloc (Nat.le_refl _) _
    have HMM := Lib.hid (Mem.new g a y W0.drew)
    have hbDM := below_trans hbD hbM
    refine hK.out _ _ (kA5 _ hS) (fun hSn invn => ?_)
    try simp only [List.getElem_toArray, List.getElem_cons_zero, List.getElem_cons_succ, Act.put, List.setIfInBounds_toArray, List.set_cons_zero, List.set_cons_succ]
    clear hK K inv hS
    have inv := invn
    have hS := hSn
    clear invn hSn
    refine F_one (i := 4) (by kernel_rfl) rfl rfl (by omega) inv (fun K hK => ?_)
    try simp only [List.getElem_toArray, List.getElem_cons_zero, List.getElem_cons_succ]
    go_simp
    refine (HAR.out _ hbDM).mono ?_
    rintro en wA ⟨vA, rfl, hsse, hbA⟩
    obtain ⟨A5, c5, hv5, hl5, hm5⟩ := hsse.shape
    have hlen5 : ((List.range g.vals.length).map fun (x : Nat) => arcsOf g (x : Int)).length = g.vals.length := by simp
    rw [hlen5] at hv5 hl5
    subst hv5
    have HSSE := Lib.hid hsse
    have hsA := hbA.size
    have hsw := hbD.size
    have hbDA := below_trans hbDM hbA
    clear hsse hlen5
    refine hK.out _ _ (kB5 hbA hS) (fun hSn invn => ?_)
    try simp only [List.getElem_toArray, List.getElem_cons_zero, List.getElem_cons_succ, Act.put, List.setIfInBounds_toArray, List.set_cons_zero, List.set_cons_succ]
    clear hK K inv hS
    have inv := invn
    have hS := hSn
    clear invn hSn
    refine F_take (i := 6) (v := ?_) rfl (by kernel_rfl) (by kernel_rfl) (by kernel_rfl) (fun _ _ _ h => h) inv (Or.inl ⟨by rfl, ?_⟩) (by assumption) (fun invn => ?_)
    rotate_left
    · (intro w hSw; (try dsimp only at hSw); go_simp; try with_reducible rfl)
    try simp only [List.getElem_toArray, List.getElem_cons_zero, List.getElem_cons_succ, Act.put, List.setIfInBounds_toArray, List.set_cons_zero, List.set_cons_succ]
    clear inv
    have inv := invn
    clear invn
    refine F_tail (i := 7) (by kernel_rfl) rfl rfl (by omega) (fun K hK => ?_)
    try simp only [List.getElem_toArray, List.getElem_cons_zero, List.getElem_cons_succ]
    go_simp
    refine hK.out _ _ ?_
    try simp only [List.getElem_toArray, List.getElem_cons_zero, List.getElem_cons_succ, Act.put, List.setIfInBounds_toArray, List.set_cons_zero, List.set_cons_succ]
    clear hK K inv hS
    refine F_last (i := 8) (by kernel_rfl) rfl rfl (by omega) (by kernel_rfl) (fun K hK => ?_)
    go_simp
    refine hK _ _ ?_
    clear hK K
    go_wp2_with fail
    have hbX : Below wA.heap.size wA (wA.alloc (.cells #[.slice A1 g.vals.length c1, .slice A2 g.edges.length c2, .int .i64 a.start, .slice A3 a.accept.length c3, .slice A4 a.accept.length c4, .int .i64 y, .slice A5 g.vals.length c5, .map (some W0.heap.size)] 102)) := (Below.refl _ _).alloc (Nat.le_refl _) _
    have hbY := below_trans hbDA hbX
    have hszz := hbX.size
    have hwM : W0.heap.size < wA.heap.size := by simp at hsA; omega
    go_ret
    exact ⟨_, W0.heap.size, rfl, hsw, ⟨w.heap.size, W0.heap.size + 1, wA.heap.size, A1, A2, A3, A4, A5, c1, c2, c3, c4, c5, Blk.new _ _ _ _ rfl, HGV.out.below hbY (Nat.le_refl _), HAV.out.below hbY (Nat.le_refl _), (HSSE.out.mono (by simp) (Nat.le_refl _)).below hbX (Nat.le_refl _), hsw, .inr (Nat.lt_succ_self _), hszz, hbY.size, by omega⟩, (HMM.out.keep hbA).keep hbX, hbY⟩
theorem start_any (g : Gr) (a : Au) (y : Int) (ha : auOk a = true) (bC bM x lf : Nat) (w : World) (hc : Ctr g a y w bC bM) (hx : x ≤ 1000000) (hlf : lf ≤ 60) :
    Calls Try.prog 46 #[.pointer (some ⟨bC, 0, none⟩), .int .i64 (x : Int), .int .i64 (lf : Int)] w fun e w' => e = .returned (.agg #[.int .i64 (x : Int), .int .i64 (bit a.start.toNat : Nat), .int .i64 (lf : Int)]) ∧ Below w.heap.size w w' := by
  obtain ⟨B, lo, hi, A1, A2, A3, A4, A5, c1, c2, c3, c4, c5, hbk, -⟩ := hc
  obtain ⟨⟨_, hn⟩, ⟨h0, h1⟩, -, -⟩ := auOk_iff.1 ha
  obtain ⟨s, hs⟩ := Int.eq_ofNat_of_zero_le h0
  have z2 : w.cell? ⟨bC, 2, none⟩ = some (.int .i64 (s : Int)) := by rw [← hs]; exact hbk.cell 2
  have lC := hbk.lt
  have lC1 : bC < w.heap.size + 1 := by omega
  rw [hs, Int.toNat_natCast]
  have e1 := shl_bit (s := s) (by omega)
  have e2 : wrap64 (2 ^ min s 64) = (bit s : Int) := by rw [Nat.min_eq_left (by omega)]; exact e1
  clear hbk h0 h1 hs ha
  go_enter Try.func46, Try.ntmps46
  go_wp2_with fail
  refine bodyPost_ret (v := .agg #[.int .i64 (x : Int), .int .i64 (bit s : Int), .int .i64 (lf : Int)]) (by simp [results, Try.results46, go_sem, e2]) rfl ⟨rfl, ?_⟩
  repeat (first | exact Below.refl _ _ | refine Below.setCell ?_ (by simp <;> omega) _ | refine Below.alloc ?_ (by simp <;> omega) _)
end Go.Proofs.Ytlhpcknpjdeebaa

/- The program's nth: walk number n from a place. -/
namespace Go.Proofs.Ytlhpcknpjdeebaa
set_option linter.unusedVariables false
set_option linter.unusedSimpArgs false
open Go.ChangeShapes Go.WideShapes Go.ChangeAt Go.RowKit Go.Maps
attribute [local go_sem] ext_cell ext_frozen ext_lt ext_lt1 ext_lt2 ext_lt3 ltn2 ltn3 ltn13 lts1 lts2 lts3
theorem leftN_succ {α : Type} {k : α → Nat} {l : List α} {i n : Nat} {p : α} (h : l[i]? = some p) : leftN k (l.take (i + 1)) n = leftN k (l.take i) n - k p := foldl_take h n
theorem leftN_le {α : Type} (k : α → Nat) : ∀ (l : List α) (n : Nat), leftN k l n ≤ n
  | [], n => Nat.le_refl _
  | p :: l, n => Nat.le_trans (leftN_le k l (n - k p)) (Nat.sub_le _ _)
/-- the first that is not passed over is the one picked -/
theorem pick_here {α : Type} {k : α → Nat} {l : List α} {i n : Nat} {p : α} (h : l[i]? = some p) (hno : ∀ j q, j < i → l[j]? = some q → ¬ leftN k (l.take j) n < k q) (hy : leftN k (l.take i) n < k p) : pick k l n = some (p, leftN k (l.take i) n) := by
  have hi := (List.getElem?_eq_some_iff.1 h).1
  rw [pick_skip hno (by omega), List.drop_eq_getElem_cons hi, (List.getElem?_eq_some_iff.1 h).2, pick, if_pos hy]
theorem pick_end {α : Type} {k : α → Nat} {l : List α} {n : Nat} (hno : ∀ j q, j < l.length → l[j]? = some q → ¬ leftN k (l.take j) n < k q) : pick k l n = none := by
  rw [pick_skip hno (Nat.le_refl _), List.drop_length]; rfl
theorem Blk.set3 {w : World} {g : Nat} {t : TypeId} {c0 c1 c2 : Value} (h : Blk w g t #[c0, c1, c2]) (d0 d1 d2 : Value) : Blk (((w.setCell ⟨g, 0, none⟩ d0).setCell ⟨g, 1, none⟩ d1).setCell ⟨g, 2, none⟩ d2) g t #[d0, d1, d2] := by
  have h2 := ((h.set_ 0 d0).set_ 1 d1).set_ 2 d2
  simpa using h2
theorem only_set3 {lo hi : Nat} {a w : World} (h : Only lo hi a w) {g : Nat} (hg : a.heap.size ≤ g) (d0 d1 d2 : Value) : Only lo hi a (((w.setCell ⟨g, 0, none⟩ d0).setCell ⟨g, 1, none⟩ d1).setCell ⟨g, 2, none⟩ d2) :=
  ((h.setCell (p := ⟨g, 0, none⟩) (.inr hg) d0).setCell (p := ⟨g, 1, none⟩) (.inr hg) d1).setCell (p := ⟨g, 2, none⟩) (.inr hg) d2
theorem set3_block (w : World) (g : Nat) (d0 d1 d2 : Value) (b : Nat) (hb : b ≠ g) : (((w.setCell ⟨g, 0, none⟩ d0).setCell ⟨g, 1, none⟩ d1).setCell ⟨g, 2, none⟩ d2).heap[b]? = w.heap[b]? := by
  rw [Below.heap_setCell _ _ _ _ hb, Below.heap_setCell _ _ _ _ hb, Below.heap_setCell _ _ _ _ hb]
theorem gBlockN {w w' : World} {row : Option Nat} (hg : w.grownBy w' row) {b : Nat} (hb : b < w.heap.size) (hne : row ≠ some b) : w'.heap[b]? = w.heap[b]? := hg.block b hb (fun e => hne e.symm)
theorem only_below {lo hi B : Nat} {a b c : World} (h : Only lo hi a b) (hb : Below B b c) (hB : a.heap.size ≤ B) : Only lo hi a c :=
  ⟨hb.os.trans h.os, hb.tape.trans h.tape, hb.output.trans h.output, Nat.le_trans h.size hb.size, fun n hn ho => (hb.block n (by omega)).trans (h.block n hn ho)⟩
theorem Mem.at_ {g : Gr} {a : Au} {y : Int} {w w' : World} {bM : Nat} {M : List Plc} (h : Mem g a y w bM M) (hb : w'.heap[bM]? = w.heap[bM]?) : Mem g a y w' bM M := by
  obtain ⟨D, h1, h2⟩ := h
  exact ⟨D, ownsMap_at h1 hb, h2⟩
theorem elStepN : ElemOk Try.prog 32 96 (.agg #[.int .i64 0, .bool false]) 2 16 := ⟨Try.underlying32, by kernel_rfl, rfl, by omega⟩
set_option maxHeartbeats 8000000 in
set_option maxRecDepth 100000 in
theorem nth_any (g : Gr) (a : Au) (y : Int) (hgo : grOk g = true) (ha : auOk a = true) (bC bM lf x s n : Nat) (M : List Plc) (w : World) (hc : Ctr g a y w bC bM) (hm : Mem g a y w bM M) (hx : x < g.vals.length) (hs : s < 2 ^ a.accept.length) (hlf : lf ≤ 60) (hn : n < cw g a y lf x s) :
    Calls Try.prog 48 #[.pointer (some ⟨bC, 0, none⟩), .agg #[.int .i64 (x : Int), .int .i64 (s : Int), .int .i64 (lf : Int)], .int .i64 (n : Int)] w fun e w' => ∃ v', e = .returned v' ∧ Own w.heap.size w'.heap.size w' 96 cSt 2 v' (nthL g a y lf x s n) ∧ Only bM (bM + 1) w w' ∧ ∃ M', Mem g a y w' bM M' := by
  have HM := Lib.hid hm
  have HCT := Lib.hid hc
  have hbMw := hm.lt
  obtain ⟨RR, hRR⟩ : ∃ RR, RR = nthL g a y lf x s n := ⟨_, rfl⟩
  rw [← hRR]
  have HRR := Lib.hid hRR
  have HN := Lib.hid hn
  have HGO := Lib.hid hgo
  have HA := Lib.hid ha
  have HS := Lib.hid hs
  have hnle : n ≤ 1000000 := by have := cw_le g a y lf x s; omega
  have hn5 := (grOk_iff.1 hgo).n5
  clear hm hc hRR hn hgo ha hs
  go_enter Try.func48, Try.ntmps48
  go_wp2_with fail
  have HB0 := Lib.hid ((Blk.new w 82 #[.int .i64 (x : Int), .int .i64 (s : Int), .int .i64 (lf : Int)] w.heap.size rfl).alloc (.cells #[] 96))
  have hbl0 : Below w.heap.size w ((w.alloc (.cells #[.int .i64 (x : Int), .int .i64 (s : Int), .int .i64 (lf : Int)] 82)).alloc (.cells #[] 96)) := ((Below.refl _ _).alloc (Nat.le_refl _) _).alloc (by simp) _
  have HO0 := Lib.hid (Only.of_below hbl0 bM (bM + 1))
  have HM0 := Lib.hid (HM.out.keep hbl0)
  have HR0 := Lib.hid (show ((w.alloc (.cells #[.int .i64 (x : Int), .int .i64 (s : Int), .int .i64 (lf : Int)] 82)).alloc (.cells #[] 96)).ownsRow (w.heap.size + 1) 96 2 (.slice (some ⟨w.heap.size + 1, 0, none⟩) 0 0) ([] : List St).length (([] : List St).flatMap cSt) from by
    have h := World.ownsRow_lit (base := w.heap.size + 1) (e := 96) (size := 2) (w.alloc (.cells #[.int .i64 (x : Int), .int .i64 (s : Int), .int .i64 (lf : Int)] 82)) #[] 0 (by simp) (by decide) rfl
    simpa using h)
  clear hbl0
  go_loopg [2, 7] lf (fun gk nn oo wr => ∃ (x' s' n' : Nat) (O : List St) (M' : List Plc), nn = .int .i64 (n' : Int) ∧ gk ≤ lf ∧ x' < g.vals.length ∧ s' < 2 ^ a.accept.length ∧ n' < cw g a y gk x' s' ∧ O ++ nthL g a y gk x' s' n' = RR ∧ O.length + gk = lf ∧
      Blk wr w.heap.size 82 #[.int .i64 (x' : Int), .int .i64 (s' : Int), .int .i64 (gk : Int)] ∧ wr.ownsRow (w.heap.size + 1) 96 2 oo O.length (O.flatMap cSt) ∧ Only bM (bM + 1) w wr ∧ Mem g a y wr bM M')
  case atStart => exact ⟨x, s, n, [], M, rfl, Nat.le_refl _, hx, HS.out, HN.out, HRR.out.symm, by simp, HB0.out, HR0.out, HO0.out, HM0.out⟩
  case round =>
    clear HB0 HO0 HM0 HR0
    obtain ⟨x', s', n', O, M', rfl, hgk, hx', hs', hn', hO, hOl, hblk, hrow, hon, hmm⟩ := hrel
    have hs4 := lt12 HA.out hs'
    have e0 : wr.cell? ⟨w.heap.size, 0, none⟩ = some (.int .i64 (x' : Int)) := hblk.cell 0
    have e1 : wr.cell? ⟨w.heap.size, 1, none⟩ = some (.int .i64 (s' : Int)) := hblk.cell 1
    have e2 : wr.cell? ⟨w.heap.size, 2, none⟩ = some (.int .i64 (gk : Int)) := hblk.cell 2
    have lE := hblk.lt
    have HBK := Lib.hid hblk
    have HROW := Lib.hid hrow
    have HON := Lib.hid hon
    have HMM := Lib.hid hmm
    have HO := Lib.hid hO
    have hnle' : n' ≤ 1000000 := by have := cw_le g a y gk x' s'; omega
    by_cases h0 : gk = 0
    · subst h0
      have hOe : O = RR := by rw [← hO]; simp [nthL]
      have hown := Own.of_row (xs := O) hrow rfl rfl
      obtain ⟨A9, n9, c9, rfl⟩ := hown.shape
      rw [hOe] at hown
      have HOW := Lib.hid (hown.mono (lo' := w.heap.size) (by omega) (Nat.le_refl _))
      clear hblk hrow hon hmm hO hn' hOl hOe hown
      go_wp2_with fail
      go_ret
      exact ⟨_, rfl, HOW.out, HON.out, _, HMM.out⟩
    · obtain ⟨f, hf⟩ : ∃ f, gk = f + 1 := ⟨gk - 1, by omega⟩
      have hpick := pick_cw (show n' < cw g a y (f + 1) x' s' by rw [← hf]; exact hn')
      have HNX := Lib.hid (fun (l : Nat) (t sid : Int) (sinv : Bool) (W : World) (hW : Ctr g a y W bC bM) (hl : l < 9) => next_any g a y HGO.out HA.out bC bM x' s' f l t sid sinv W hW hx' hs' (by omega) hl)
      rw [← hf] at HNX
      have HNS := Lib.hid (fun n'' p (h : pick (cwAt g a y f x' s') (arcsOf g (x' : Int)) n' = some (p, n'')) => nthL_succ (y := y) h)
      rw [← hf] at HNS
      have hfl : f < gk := by omega
      have hgp : (0 : Int) < (gk : Int) := by omega
      have hgn : 0 < gk := by omega
      have hctr := HCT.out.only hon
      have HC1 := Lib.hid hctr
      obtain ⟨B, lo, hi, A1, A2, A3, A4, A5, c1, c2, c3, c4, c5, hbk, hgv, hav, hlv, h5, h6, h7, h8, h9⟩ := hctr
      have z6 : wr.cell? ⟨bC, 6, none⟩ = some (.slice A5 g.vals.length c5) := hbk.cell 6
      have lC := hbk.lt
      have hA5 : ∃ b5 o5, A5 = some ⟨b5, o5, none⟩ ∧ b5 < wr.heap.size ∧ ∃ A7 c7, wr.cell? ⟨b5, o5 + x', none⟩ = some (.slice A7 (arcsOf g (x' : Int)).length c7) ∧ (arcsOf g (x' : Int)).length ≤ c7 ∧ c7 ≤ 9223372036854775807 ∧ SlI lo hi wr cA 4 (.slice A7 (arcsOf g (x' : Int)).length c7) (arcsOf g (x' : Int)) := by
        obtain ⟨b5, o5, A7, c7, q1, q2, q3, q4, q5, q6, q7, -⟩ := hlv.row h7 (i := x') (xs := arcsOf g (x' : Int)) (by simp [hx'])
        exact ⟨b5, o5, q1, by omega, A7, c7, q4, q5, q6, q7⟩
      obtain ⟨b5, o5, rfl, hb5, A7, c7, d5, hl7, hm7, hI7⟩ := hA5
      have hal := arcs_len (grOk_iff.1 HGO.out) (x' : Int)
      have hxx : (x' : Int) < (g.vals.length : Int) := by omega
      have HI7 := Lib.hid hI7
      have HP := Lib.hid hpick
      have hgk60 : gk ≤ 60 := by omega
      have hol : O.length ≤ 60 := by omega
      have HF := Lib.hid hf
      have hrlt := hrow.lt
      have HRL := Lib.hid hrlt
      obtain ⟨wo, hwo⟩ : ∃ wo : World, wo = wr := ⟨_, rfl⟩
      rw [← hwo] at HBK HROW HON HMM HC1 HI7 HRL e0 e1 e2 lE z6 lC hb5 d5 h7 ⊢
      obtain ⟨vO, rfl⟩ : ∃ vO, vO = u7 := ⟨_, rfl⟩
      clear hwo hbk hgv hav hlv h8 hpick hblk hrow hon hmm hO hn' hI7 hf hrlt h0
      go_upto_region 3 with fail
      refine wp_region_ext_lit (by kernel_rfl) (by kernel_rfl) ?_
      repeat (go_big_quiet_step (fail))
      refine wpQuiet_nil ?_
      intro _ hw'
      obtain ⟨u2, hw''⟩ := hw'
      subst hw''
      clear d5 z6
      have hbU := ext_below wo u2
      go_wp2_with fail
      go_loopw [25, 2, 7] (fun ii nn oo wi => ∃ (i : Nat) (M2 : List Plc), i ≤ (arcsOf g (x' : Int)).length ∧ ii = .int .i64 (i : Int) ∧ oo = vO ∧ nn = .int .i64 (leftN (cwAt g a y f x' s') ((arcsOf g (x' : Int)).take i) n' : Nat) ∧ (∀ j q, j < i → (arcsOf g (x' : Int))[j]? = some q → ¬ leftN (cwAt g a y f x' s') ((arcsOf g (x' : Int)).take j) n' < cwAt g a y f x' s' q) ∧ Only bM (bM + 1) wo wi ∧ Mem g a y wi bM M2) (fun ii _ _ _ => (arcsOf g (x' : Int)).length - (intOf ii).toNat)
      case atStart => exact ⟨0, M', Nat.zero_le _, rfl, rfl, rfl, fun j q hj => by omega, Only.of_below hbU _ _, HMM.out.keep hbU⟩
      case round =>
        obtain ⟨i, M2, hi, rfl, hvo, rfl, hno, hon, hmm⟩ := hrel
        subst hvo
        by_cases hlt : i < (arcsOf g (x' : Int)).length
        · have hyi : (arcsOf g (x' : Int))[i]? = some (arcsOf g (x' : Int))[i] := List.getElem?_eq_getElem hlt
          have hyr := arc_range (grOk_iff.1 HGO.out) (List.getElem_mem hlt)
          generalize (arcsOf g (x' : Int))[i] = p at hyi hyr
          obtain ⟨⟨sid, sinv⟩, l, t⟩ := p
          simp only at hyr
          obtain ⟨l, rfl⟩ := Int.eq_ofNat_of_zero_le hyr.1.1
          obtain ⟨t, rfl⟩ := Int.eq_ofNat_of_zero_le hyr.2.1
          obtain ⟨b7, o7, rfl, hb7l, hb7, k0, k1, k2, k3⟩ := HI7.out.arc hyi
          simp only at k0 k1 k2 k3
          have hb7M : b7 < bM ∨ bM + 1 ≤ b7 := by omega
          have hb7o : b7 < wo.heap.size := by omega
          have k0 := ocell hon k0 hb7o hb7M
          have k1 := ocell hon k1 hb7o hb7M
          have k2 := ocell hon k2 hb7o hb7M
          have k3 := ocell hon k3 hb7o hb7M
          have hsz := hon.size
          have e0 := ocell hon e0 lE (.inr (by omega))
          have e1 := ocell hon e1 lE (.inr (by omega))
          have e2 := ocell hon e2 lE (.inr (by omega))
          have hb7w : b7 < wr.heap.size := by omega
          have lEr : w.heap.size < wr.heap.size := by omega
          have hAF := aft_lt HA.out s' (valAt g x') l
          have hKA : cwAt g a y f x' s' ((sid, sinv), (l : Int), (t : Int)) = cw g a y f t (aft a s' (valAt g x') l) := by rw [cwAt]; simp
          have hPH := fun h => pick_here hyi hno h
          have hLS := leftN_succ (k := cwAt g a y f x' s') (n := n') hyi
          have hLL := leftN_le (cwAt g a y f x' s') ((arcsOf g (x' : Int)).take i) n'
          rw [hKA] at hPH hLS
          have hno2 : ¬ leftN (cwAt g a y f x' s') ((arcsOf g (x' : Int)).take i) n' < cw g a y f t (aft a s' (valAt g x') l) → ∀ j q, j < i + 1 → (arcsOf g (x' : Int))[j]? = some q → ¬ leftN (cwAt g a y f x' s') ((arcsOf g (x' : Int)).take j) n' < cwAt g a y f x' s' q := fun h j q hj hq => by
            rcases Nat.lt_or_ge j i with h1 | h1
            · exact hno j q h1 hq
            · obtain rfl : j = i := by omega
              rw [hyi] at hq
              injection hq with hq
              rw [← hq, hKA]; exact h
          have hNSS := fun n'' h => HNS.out n'' ((sid, sinv), (l : Int), (t : Int)) h
          simp only [Int.toNat_natCast] at hNSS
          have hcl2 := cw_le g a y f t (aft a s' (valAt g x') l)
          have HNC := Lib.hid (fun (W : World) (hW : Ctr g a y W bC bM) => HNX.out l (t : Int) sid sinv W hW (by omega))
          have HRC := Lib.hid (fun (W : World) (h1 : Ctr g a y W bC bM) (h2 : Mem g a y W bM M2) => count_any g a y HGO.out HA.out bC bM f t (aft a s' (valAt g x') l) M2 W h1 h2 (by omega) hAF (by omega))
          obtain ⟨CC, hCC⟩ : ∃ CC, CC = cw g a y f t (aft a s' (valAt g x') l) := ⟨_, rfl⟩
          rw [← hCC] at hPH hLS hno2 hcl2 HRC
          have HCC := Lib.hid hCC
          generalize aft a s' (valAt g x') l = AF at *
          have hii : (i : Int) < ((arcsOf g (x' : Int)).length : Int) := by omega
          have HLS := Lib.hid hLS
          have HPH := Lib.hid hPH
          have HN2 := Lib.hid hno2
          have HNSS := Lib.hid hNSS
          have HON2 := Lib.hid hon
          have HMM2 := Lib.hid hmm
          have hAF4 : AF < 4096 := lt12 HA.out hAF
          have htl : t < g.vals.length := by omega
          have HAF := Lib.hid hAF
          clear hyi hno hLS hPH hno2 hNSS hCC hon hmm hKA hAF
          generalize leftN (cwAt g a y f x' s') ((arcsOf g (x' : Int)).take i) n' = m1 at *
          have hbE : Below wr.heap.size wr (wr.alloc (.cells #[.int .i64 sid, .bool sinv, .int .i64 (l : Int), .int .i64 (t : Int)] 104)) := (Below.refl _ _).alloc (Nat.le_refl _) _
          have a0 : (wr.alloc (.cells #[.int .i64 sid, .bool sinv, .int .i64 (l : Int), .int .i64 (t : Int)] 104)).cell? ⟨wr.heap.size, 0, none⟩ = some (.int .i64 sid) := by simp
          have a1 : (wr.alloc (.cells #[.int .i64 sid, .bool sinv, .int .i64 (l : Int), .int .i64 (t : Int)] 104)).cell? ⟨wr.heap.size, 1, none⟩ = some (.bool sinv) := by simp
          go_wp2_with fail
          refine (HNC.out _ ((HC1.out.only HON2.out).keep hbE)).mono ?_
          rintro en w3 ⟨rfl, hb3⟩
          have hbQ : Below w3.heap.size w3 (w3.alloc (.cells #[.int .i64 (t : Int), .int .i64 (AF : Int), .int .i64 (f : Int)] 82)) := (Below.refl _ _).alloc (Nat.le_refl _) _
          have hbEQ := below_trans hbE (below_trans hb3 hbQ)
          have hb3Q := below_trans hb3 hbQ
          have q0 : (w3.alloc (.cells #[.int .i64 (t : Int), .int .i64 (AF : Int), .int .i64 (f : Int)] 82)).cell? ⟨w3.heap.size, 0, none⟩ = some (.int .i64 (t : Int)) := by simp
          have q1 : (w3.alloc (.cells #[.int .i64 (t : Int), .int .i64 (AF : Int), .int .i64 (f : Int)] 82)).cell? ⟨w3.heap.size, 1, none⟩ = some (.int .i64 (AF : Int)) := by simp
          have q2 : (w3.alloc (.cells #[.int .i64 (t : Int), .int .i64 (AF : Int), .int .i64 (f : Int)] 82)).cell? ⟨w3.heap.size, 2, none⟩ = some (.int .i64 (f : Int)) := by simp
          have a0 := kcell hb3Q a0
          have a1 := kcell hb3Q a1
          have hsE : wr.heap.size < w3.heap.size := by have := hb3.size; simp at this; omega
          have HC3 := Lib.hid ((HC1.out.only HON2.out).keep hbEQ)
          have HM3 := Lib.hid (HMM2.out.keep hbEQ)
          have HO3 := Lib.hid (HON2.out.trans (Only.of_below hbEQ bM (bM + 1)))
          have lQ : w3.heap.size < (w3.alloc (.cells #[.int .i64 (t : Int), .int .i64 (AF : Int), .int .i64 (f : Int)] 82)).heap.size := by simp
          clear hb3 hbQ hbEQ hb3Q hbE k0 k1 k2 k3 e0 e1 e2
          go_wp2_with fail
          refine (HRC.out _ HC3.out HM3.out).mono ?_
          rintro en w4 ⟨rfl, hon4, M4, hm4, hmo4⟩
          have q0 := ocell hon4 q0 lQ (.inr (by omega))
          have q1 := ocell hon4 q1 lQ (.inr (by omega))
          have q2 := ocell hon4 q2 lQ (.inr (by omega))
          have a0 := ocell hon4 a0 (by omega) (.inr (by omega))
          have a1 := ocell hon4 a1 (by omega) (.inr (by omega))
          have hs4w := hon4.size
          have HO4 := Lib.hid (HO3.out.trans hon4)
          have HM4 := Lib.hid hm4
          clear hon4 hm4 hmo4
          by_cases hpk : m1 < CC
          · have hpk1 : (m1 : Int) < (CC : Int) := by omega
            have HPK := Lib.hid (HPH.out hpk)
            have HNR := Lib.hid (HNSS.out m1 (HPH.out hpk))
            have honA := HO4.out
            have hrow4 := ownsRow_block HROW.out (fun g hg => honA.block g (HRL.out g hg).2 (.inr (by have := (HRL.out g hg).1; omega)))
            have hbk4 := HBK.out.only honA (.inr (by omega))
            have HR4 := Lib.hid hrow4
            have HBK4 := Lib.hid hbk4
            have hs44 : wo.heap.size ≤ w4.heap.size := by omega
            have lQ4 : w3.heap.size < w4.heap.size := by omega
            clear HN2 HLS HPH HNSS hrow4 hbk4 honA
            go_upto_region 10 with (at_builtin; (refine wpList_append1 cSt elStepN rfl _ _ rfl (w.heap.size + 1) _ O (sid, sinv) _ 1 _ (by rfl) HR4.out (by rfl) rfl rfl rfl (cSt_one _) (by omega) (by omega) (by omega) ?_); intro v8 w8 hrow8 hb8 hat8 hgr8)
            have hs8 := hb8.size
            have hne : ∀ b, wo.heap.size ≤ b → u7.ownBlock ≠ some b := fun b hb e => by have := (HRL.out b e).2; omega
            have hneM : u7.ownBlock ≠ some bM := fun e => by have := (HRL.out bM e).1; omega
            have g8 : ∀ b, b < w4.heap.size → u7.ownBlock ≠ some b → w8.heap[b]? = w4.heap[b]? := fun b hb hn => (gBlockN hgr8 (by simp; omega) hn).trans (Below.heap_alloc _ _ _ hb)
            have q0 : w8.cell? ⟨w3.heap.size, 0, none⟩ = some (.int .i64 (t : Int)) := (World.cell?_of_block (a := ⟨w3.heap.size, 0, none⟩) (g8 _ lQ4 (hne w3.heap.size (by omega)))).trans q0
            have q1 : w8.cell? ⟨w3.heap.size, 1, none⟩ = some (.int .i64 (AF : Int)) := (World.cell?_of_block (a := ⟨w3.heap.size, 1, none⟩) (g8 _ lQ4 (hne w3.heap.size (by omega)))).trans q1
            have q2 : w8.cell? ⟨w3.heap.size, 2, none⟩ = some (.int .i64 (f : Int)) := (World.cell?_of_block (a := ⟨w3.heap.size, 2, none⟩) (g8 _ lQ4 (hne w3.heap.size (by omega)))).trans q2
            have hbk8 := HBK4.out.below hb8 (Nat.lt_succ_self _)
            have z0 : w8.cell? ⟨w.heap.size, 0, none⟩ = some (.int .i64 (x' : Int)) := hbk8.cell 0
            have z1 : w8.cell? ⟨w.heap.size, 1, none⟩ = some (.int .i64 (s' : Int)) := hbk8.cell 1
            have z2 : w8.cell? ⟨w.heap.size, 2, none⟩ = some (.int .i64 (gk : Int)) := hbk8.cell 2
            have f0 := hbk8.frozen 0
            have f1 := hbk8.frozen 1
            have f2 := hbk8.frozen 2
            have l8 := hbk8.lt
            have lbM4 := HM4.out.lt
            have hmm8 := HM4.out.at_ (g8 bM lbM4 hneM)
            have hon8 := only_below (HON.out.trans HO4.out) hb8 (show w.heap.size ≤ w.heap.size + 1 by omega)
            have HB8 := Lib.hid (hbk8.set3 (.int .i64 (t : Int)) (.int .i64 (AF : Int)) (.int .i64 (f : Int)))
            have HR8 := Lib.hid (ownsRow_block hrow8 (fun g hg => set3_block w8 w.heap.size (.int .i64 (t : Int)) (.int .i64 (AF : Int)) (.int .i64 (f : Int)) g (by have := (hrow8.lt g hg).1; omega)))
            have HM8 := Lib.hid (hmm8.at_ (set3_block w8 w.heap.size (.int .i64 (t : Int)) (.int .i64 (AF : Int)) (.int .i64 (f : Int)) bM (by omega)))
            have HO8 := Lib.hid (only_set3 hon8 (Nat.le_refl _) (.int .i64 (t : Int)) (.int .i64 (AF : Int)) (.int .i64 (f : Int)))
            clear hbk8 hrow8 hmm8 hon8 hb8 hat8 hgr8 g8 hne hneM a0 a1
            go_wp2_with fail
            go_roundg f
            case measure => omega
            case rel => exact ⟨t, AF, m1, O ++ [(sid, sinv)], M4, rfl, by omega, htl, HAF.out, by rw [← HCC.out]; exact hpk, by rw [← HO.out, HNR.out, List.append_assoc]; rfl, by have := HF.out; simp; omega, HB8.out, HR8.out, HO8.out, HM8.out⟩
          · have hpk1 : ¬ (m1 : Int) < (CC : Int) := by omega
            have hsub : IntKind.i64.wrap ((m1 : Int) - (CC : Int)) = ((m1 - CC : Nat) : Int) := by rw [IntWalk.i64_in _ (by omega)]; omega
            have hsub2 : (m1 : Int) - (CC : Int) = ((m1 - CC : Nat) : Int) := by omega
            have HNO := Lib.hid (HN2.out hpk)
            clear HPH HNSS HN2
            go_wp2_with fail
            go_roundw
            case rel => exact ⟨i + 1, M4, by omega, by go_num, rfl, by rw [HLS.out], HNO.out, HO4.out, HM4.out⟩
            case measure => simp [intOf]; omega
        · obtain rfl : i = (arcsOf g (x' : Int)).length := by omega
          obtain ⟨p, n'', h1, -⟩ := HP.out
          rw [pick_end hno] at h1
          cases h1
end Go.Proofs.Ytlhpcknpjdeebaa

/- The layers, plainly: keys once each and in bounds; the chain of layers and what they count. -/
namespace Go.Proofs.Ytlhpcknpjdeebaa
set_option linter.unusedVariables false
set_option linter.unusedSimpArgs false
open Go.ChangeShapes Go.WideShapes Go.ChangeAt Go.RowKit

structure KeysOk (g : Gr) (a : Au) (N : List Key) : Prop where
  nod : N.Nodup
  rng : ∀ k ∈ N, k.1 < g.vals.length ∧ k.2 < 2 ^ a.accept.length
theorem findK_none {N : List Key} {k : Key} (h : findK N k = none) : k ∉ N := by
  intro hk
  have := List.findIdx?_eq_none_iff.1 h k hk
  simp at this
theorem KeysOk.push {g : Gr} {a : Au} {N : List Key} (h : KeysOk g a N) {k : Key} (hk : k ∉ N) (hr : k.1 < g.vals.length ∧ k.2 < 2 ^ a.accept.length) : KeysOk g a (N ++ [k]) := by
  refine ⟨List.nodup_append.2 ⟨h.nod, by simp, fun b hb c hc e => ?_⟩, fun u hu => ?_⟩
  · rw [List.mem_singleton] at hc
    subst hc e
    exact hk hb
  · rcases List.mem_append.1 hu with hu | hu
    · exact h.rng u hu
    · rw [List.mem_singleton] at hu
      subst hu
      exact hr
theorem arc_key {g : Gr} {a : Au} (hg : GrOk g) (ha : auOk a = true) {x : Int} {p : Arc} (hp : p ∈ arcsOf g x) (s v : Nat) : p.2.2.toNat < g.vals.length ∧ aft a s v p.2.1.toNat < 2 ^ a.accept.length := by
  have h := arc_range hg hp
  exact ⟨by omega, aft_lt ha _ _ _⟩
theorem arcL_ok {g : Gr} {a : Au} (hg : GrOk g) (ha : auOk a = true) {x s : Nat} {p : Arc} (hp : p ∈ arcsOf g (x : Int)) {st : LSt} (h : KeysOk g a st.1) : KeysOk g a (arcL g a x s st p).1 := by
  unfold arcL
  split
  · exact h
  · split
    · exact h
    · rename_i hf
      exact h.push (findK_none hf) (arc_key hg ha hp _ _)
theorem rowTk_ok {g : Gr} {a : Au} (hg : GrOk g) (ha : auOk a = true) {N : List Key} (h : KeysOk g a N) (x s : Nat) : ∀ k, KeysOk g a (rowTk g a N x s k).1
  | 0 => h
  | k + 1 => by
    rcases hk : (arcsOf g (x : Int))[k]? with _ | p
    · have : rowTk g a N x s (k + 1) = rowTk g a N x s k := by
        rw [rowTk, rowTk, List.take_of_length_le (by have := List.getElem?_eq_none_iff.1 hk; omega), List.take_of_length_le (List.getElem?_eq_none_iff.1 hk)]
      rw [this]
      exact rowTk_ok hg ha h x s k
    · rw [rowTk_succ hk]
      exact arcL_ok hg ha (List.mem_of_getElem? hk) (rowTk_ok hg ha h x s k)
theorem rowL_ok {g : Gr} {a : Au} (hg : GrOk g) (ha : auOk a = true) {N : List Key} (h : KeysOk g a N) (x s : Nat) : KeysOk g a (rowL g a N x s).1 := by
  rw [← rowTk_all]; exact rowTk_ok hg ha h x s _
theorem layTo_ok {g : Gr} {a : Au} (hg : GrOk g) (ha : auOk a = true) (last : List Key) : ∀ i, KeysOk g a (layTo g a last i).1
  | 0 => ⟨by simp [layTo], fun k hk => by simp [layTo] at hk⟩
  | i + 1 => by
    rcases hk : last[i]? with _ | k
    · have : layTo g a last (i + 1) = layTo g a last i := by
        rw [layTo, layTo, List.take_of_length_le (by have := List.getElem?_eq_none_iff.1 hk; omega), List.take_of_length_le (List.getElem?_eq_none_iff.1 hk)]
      rw [this]
      exact layTo_ok hg ha last i
    · rw [layTo_succ hk]
      exact rowL_ok hg ha (layTo_ok hg ha last i) _ _
theorem KeysOk.len {g : Gr} {a : Au} (hg : GrOk g) (ha : auOk a = true) {N : List Key} (h : KeysOk g a N) : N.length ≤ 20480 := by
  have h1 := nodup_subN (N.map fun z => z.1 * 4096 + z.2) (List.range 20480) ?_ ?_
  · simpa using h1
  · rw [List.Nodup, List.pairwise_map]
    refine List.Pairwise.imp_of_mem ?_ h.nod
    intro b c hb hc hne he
    refine hne ?_
    have hb := lt12 ha (h.rng b hb).2
    have hc := lt12 ha (h.rng c hc).2
    exact Prod.ext (by omega) (by omega)
  · intro u hu
    obtain ⟨z, hz, rfl⟩ := List.mem_map.1 hu
    have hb := h.rng z hz
    have hb2 := lt12 ha hb.2
    have := hg.n5
    rw [List.mem_range]
    omega
theorem arcL_len {g : Gr} {a : Au} {x s : Nat} (st : LSt) (p : Arc) : (arcL g a x s st p).2.length ≤ st.2.length + 1 := by
  unfold arcL
  split
  · omega
  · split <;> simp
theorem rowTk_len (g : Gr) (a : Au) (N : List Key) (x s : Nat) : ∀ k, (rowTk g a N x s k).2.length ≤ k
  | 0 => by simp [rowTk]
  | k + 1 => by
    rcases hk : (arcsOf g (x : Int))[k]? with _ | p
    · have : rowTk g a N x s (k + 1) = rowTk g a N x s k := by
        rw [rowTk, rowTk, List.take_of_length_le (by have := List.getElem?_eq_none_iff.1 hk; omega), List.take_of_length_le (List.getElem?_eq_none_iff.1 hk)]
      rw [this]
      exact Nat.le_trans (rowTk_len g a N x s k) (by omega)
    · rw [rowTk_succ hk]
      have := rowTk_len g a N x s k
      exact Nat.le_trans (arcL_len _ _) (by omega)

/-! ### The chain of layers -/
def layN (g : Gr) (a : Au) (k0 : Key) : Nat → List Key
  | 0 => [k0]
  | d + 1 => (layA g a (layN g a k0 d)).1
def layT (g : Gr) (a : Au) (k0 : Key) (d i : Nat) : List (St × Nat) := (layA g a (layN g a k0 d)).2.getD i []
theorem layN_ok {g : Gr} {a : Au} (hg : GrOk g) (ha : auOk a = true) {k0 : Key} (h0 : k0.1 < g.vals.length ∧ k0.2 < 2 ^ a.accept.length) : ∀ d, KeysOk g a (layN g a k0 d)
  | 0 => ⟨by simp [layN], fun k hk => by rw [layN, List.mem_singleton] at hk; subst hk; exact h0⟩
  | d + 1 => layTo_ok hg ha _ _
theorem layT_row {g : Gr} {a : Au} {k0 : Key} {d i : Nat} {k : Key} (h : (layN g a k0 d)[i]? = some k) : RowR g a k.1 k.2 (layN g a k0 (d + 1)) (arcsOf g (k.1 : Int)) (layT g a k0 d i) := by
  obtain ⟨h1, h2⟩ := layA_row g a (layN g a k0 d)
  have hi : i < (layA g a (layN g a k0 d)).2.length := by rw [h1]; exact (List.getElem?_eq_some_iff.1 h).1
  refine h2 i k _ h ?_
  rw [layT, List.getD_eq_getElem?_getD, List.getElem?_eq_getElem hi]; rfl
/-- what row i of layer d counts, of n layers behind the first -/
def layC (g : Gr) (a : Au) (y : Int) (k0 : Key) (n d i : Nat) : Nat := match (layN g a k0 d)[i]? with
  | none => 0
  | some k => cw g a y (n - d) k.1 k.2
theorem layC_at {g : Gr} {a : Au} {y : Int} {k0 : Key} {n d i : Nat} {k : Key} (h : (layN g a k0 d)[i]? = some k) : layC g a y k0 n d i = cw g a y (n - d) k.1 k.2 := by rw [layC]; simp only [h]
def cntF (C : Nat → Nat) (n : Nat) (e : St × Nat) : Nat := min 1000000 (n + C e.2)
theorem RowR.cntF {g : Gr} {a : Au} {y : Int} {f x s : Nat} {N : List Key} {C : Nat → Nat} (hC : ∀ i k, N[i]? = some k → C i = cw g a y f k.1 k.2) {l : List Arc} {T : List (St × Nat)} (h : RowR g a x s N l T) :
    ∀ n, n ≤ 1000000 → T.foldl (Go.Proofs.Ytlhpcknpjdeebaa.cntF C) n = l.foldl (cwStep g a (cw g a y f) x s) n := by
  induction h with
  | nil => intro n _; rfl
  | skip h1 _ ih =>
    intro n hn
    rw [List.foldl_cons, cwStep, h1, cw_none, Nat.add_zero, Nat.min_eq_right hn]
    exact ih n hn
  | take h1 h2 _ ih =>
    intro n hn
    rw [List.foldl_cons, List.foldl_cons, Go.Proofs.Ytlhpcknpjdeebaa.cntF, cwStep, hC _ _ h2]
    exact ih _ (Nat.min_le_left _ _)
theorem layC_fold {g : Gr} {a : Au} {y : Int} {k0 : Key} {n d i : Nat} {k : Key} (h : (layN g a k0 d)[i]? = some k) (hd : d < n) : (layT g a k0 d i).foldl (cntF (layC g a y k0 n (d + 1))) 0 = layC g a y k0 n d i := by
  rw [layC_at h, (layT_row h).cntF (y := y) (f := n - (d + 1)) (fun i k hk => layC_at hk) 0 (by omega), show n - d = (n - (d + 1)) + 1 by omega]
  rfl
theorem layC_le (g : Gr) (a : Au) (y : Int) (k0 : Key) (n d i : Nat) : layC g a y k0 n d i ≤ 1000000 := by
  unfold layC
  split
  · omega
  · exact cw_le ..
theorem RowR.to_lt {g : Gr} {a : Au} {x s : Nat} {N : List Key} {l : List Arc} {T : List (St × Nat)} (h : RowR g a x s N l T) : ∀ e ∈ T, e.2 < N.length := by
  induction h with
  | nil => intro e he; cases he
  | skip _ _ ih => exact ih
  | take _ h2 _ ih =>
    intro e he
    rcases List.mem_cons.1 he with rfl | he
    · exact (List.getElem?_eq_some_iff.1 h2).1
    · exact ih e he
theorem RowR.len {g : Gr} {a : Au} {x s : Nat} {N : List Key} {l : List Arc} {T : List (St × Nat)} (h : RowR g a x s N l T) : T.length ≤ l.length := by
  induction h with
  | nil => exact Nat.le_refl _
  | skip _ _ ih => rw [List.length_cons]; omega
  | take _ _ _ ih => simp only [List.length_cons]; omega
end Go.Proofs.Ytlhpcknpjdeebaa

/- Counting, numbering and listing walks: the plain results; the shortest length is below the number of vertices. -/
namespace Go.Proofs.Ytlhpcknpjdeebaa
set_option linter.unusedVariables false
set_option linter.unusedSimpArgs false
open Go.ChangeShapes Go.WideShapes Go.ChangeAt Go.RowKit

theorem dist_chain {next : Nat → List Nat} {goal : Nat → Prop} {N : Nat} (hn : ∀ i k, i < N → k ∈ next i → k < N) : ∀ (d i : Nat), i < N → toG next goal d i → (∀ m, m < d → ¬ toG next goal m i) →
    ∃ L : List Nat, L.length = d + 1 ∧ (∀ v ∈ L, v < N) ∧ (∀ e v, L[e]? = some v → toG next goal (d - e) v ∧ ∀ m, m < d - e → ¬ toG next goal m v)
  | 0, i, hi, hg, hm => ⟨[i], rfl, fun v hv => by rw [List.mem_singleton] at hv; subst hv; exact hi, fun e v he => by
      cases e with
      | zero => simp only [List.getElem?_cons_zero, Option.some.injEq] at he; subst he; exact ⟨hg, hm⟩
      | succ e => simp at he⟩
  | d + 1, i, hi, hg, hm => by
    obtain ⟨k, hk, hg2⟩ := hg
    obtain ⟨L, h1, h2, h3⟩ := dist_chain hn d k (hn i k hi hk) hg2 (fun m hmd hgm => hm (m + 1) (by omega) ⟨k, hk, hgm⟩)
    refine ⟨i :: L, by simp [h1], fun v hv => ?_, fun e v he => ?_⟩
    · rcases List.mem_cons.1 hv with rfl | hv
      · exact hi
      · exact h2 v hv
    · cases e with
      | zero => simp only [List.getElem?_cons_zero, Option.some.injEq] at he; subst he; exact ⟨⟨k, hk, hg2⟩, hm⟩
      | succ e =>
        simp only [List.getElem?_cons_succ] at he
        have := h3 e v he
        rwa [show d + 1 - (e + 1) = d - e by omega]
theorem nodup_le : ∀ {L : List Nat} {N : Nat}, L.Nodup → (∀ v ∈ L, v < N) → L.length ≤ N := by
  intro L N h1 h2
  have := nodup_subN L (List.range N) h1 (fun v hv => List.mem_range.2 (h2 v hv))
  simpa using this
theorem dist_lt {next : Nat → List Nat} {goal : Nat → Prop} {N i : Nat} {d : Int} (hn : ∀ i k, i < N → k ∈ next i → k < N) (hi : i < N) (h : IsDist next goal i d) : d < (N : Int) := by
  rcases h with ⟨rfl, _⟩ | ⟨h0, h1, h2⟩
  · omega
  · obtain ⟨L, e1, e2, e3⟩ := dist_chain hn d.toNat i hi h1 h2
    have hnd : L.Nodup := by
      rw [List.Nodup, List.pairwise_iff_getElem]
      intro p q hp hq hpq he
      have f1 := e3 p L[p] (List.getElem?_eq_getElem hp)
      have f2 := e3 q L[q] (List.getElem?_eq_getElem hq)
      rw [← he] at f2
      exact f1.2 _ (by omega) f2.1
    have := nodup_le hnd e2
    omega
theorem shortLen_dist {g : Gr} {a : Au} {x y : Nat} (hg : grOk g = true) (ha : auOk a = true) (hx : x < g.vals.length) (hy : y < g.vals.length) :
    IsDist (nextI g a) (fun i => i ∈ goalsL g a y) (x * a.accept.length + a.start.toNat) (shortLen g a (x : Int) (y : Int)) := by
  have hd : (wi (y : Int) 0 ((g.vals.length : Int) - 1) && (grOk g && auOk a)) = true := by
    simp only [Bool.and_eq_true]
    exact ⟨by rw [wi_iff]; omega, hg, ha⟩
  have hN : ∀ i k, i < g.vals.length * a.accept.length → k ∈ nextI g a i → k < g.vals.length * a.accept.length := fun i k _ hk => nextV_lt (grOk_iff.1 hg) ha hk
  have hfs : ∀ i ∈ goalsL g a y, i < g.vals.length * a.accept.length := fun i hi => by
    obtain ⟨s, hs, _, rfl⟩ := mem_goalsL.1 hi
    calc y * a.accept.length + s < y * a.accept.length + a.accept.length := by omega
      _ = (y + 1) * a.accept.length := by rw [Nat.add_mul, Nat.one_mul]
      _ ≤ _ := Nat.mul_le_mul_right _ hy
  obtain ⟨⟨_, hn⟩, ⟨h0, h1⟩, -, -⟩ := auOk_iff.1 ha
  have hi : x * a.accept.length + a.start.toNat < g.vals.length * a.accept.length := by
    calc x * a.accept.length + a.start.toNat < x * a.accept.length + a.accept.length := by omega
      _ = (x + 1) * a.accept.length := by rw [Nat.add_mul, Nat.one_mul]
      _ ≤ _ := Nat.mul_le_mul_right _ hx
  rw [shortLen, if_pos (by rw [Bool.and_eq_true]; exact ⟨by rw [wi_iff]; omega, hd⟩), distTo, if_pos hd, Int.toNat_natCast, Int.toNat_natCast]
  exact spread_dist hfs hN _ hi
theorem shortLen_ok {g : Gr} {a : Au} {x y : Int} (h : 0 ≤ shortLen g a x y) : cntOk g a x y = true := by
  rcases hc : cntOk g a x y with _ | _
  · have : shortLen g a x y = -1 := by
      rw [shortLen, if_neg]
      rw [cntOk] at hc
      rw [hc]; simp
    omega
  · rfl
theorem cntOk_iff {g : Gr} {a : Au} {x y : Int} : cntOk g a x y = true ↔ (0 ≤ x ∧ x < (g.vals.length : Int)) ∧ (0 ≤ y ∧ y < (g.vals.length : Int)) ∧ grOk g = true ∧ auOk a = true := by
  rw [cntOk]
  simp only [Bool.and_eq_true, wi_iff]
  constructor
  · rintro ⟨h1, h2, h3, h4⟩; exact ⟨by omega, by omega, h3, h4⟩
  · rintro ⟨h1, h2, h3, h4⟩; exact ⟨by omega, by omega, h3, h4⟩
theorem shortLen_lt (g : Gr) (a : Au) (x y : Int) : shortLen g a x y ≤ 59 := by
  rcases Int.lt_or_le (shortLen g a x y) 0 with h | h
  · omega
  · obtain ⟨⟨hx0, hx1⟩, ⟨hy0, hy1⟩, hg, ha⟩ := cntOk_iff.1 (shortLen_ok h)
    obtain ⟨x, rfl⟩ := Int.eq_ofNat_of_zero_le hx0
    obtain ⟨y, rfl⟩ := Int.eq_ofNat_of_zero_le hy0
    have hd := shortLen_dist hg ha (show x < g.vals.length by omega) (show y < g.vals.length by omega)
    have hN : ∀ i k, i < g.vals.length * a.accept.length → k ∈ nextI g a i → k < g.vals.length * a.accept.length := fun i k _ hk => nextV_lt (grOk_iff.1 hg) ha hk
    obtain ⟨⟨_, hn⟩, ⟨h0, h1⟩, -, -⟩ := auOk_iff.1 ha
    have hi : x * a.accept.length + a.start.toNat < g.vals.length * a.accept.length := by
      calc x * a.accept.length + a.start.toNat < x * a.accept.length + a.accept.length := by omega
        _ = (x + 1) * a.accept.length := by rw [Nat.add_mul, Nat.one_mul]
        _ ≤ _ := Nat.mul_le_mul_right _ (by omega)
    have h5 := dist_lt hN hi hd
    have h6 : g.vals.length * a.accept.length ≤ 5 * 12 := Nat.mul_le_mul (grOk_iff.1 hg).n5 hn
    omega
theorem shortLen_neg {g : Gr} {a : Au} {x y : Int} (h : shortLen g a x y < 0) : shortLen g a x y = -1 := by
  rcases hc : cntOk g a x y with _ | _
  · rw [shortLen, if_neg]
    rw [cntOk] at hc
    rw [hc]; simp
  · obtain ⟨⟨hx0, hx1⟩, ⟨hy0, hy1⟩, hg, ha⟩ := cntOk_iff.1 hc
    obtain ⟨x, rfl⟩ := Int.eq_ofNat_of_zero_le hx0
    obtain ⟨y, rfl⟩ := Int.eq_ofNat_of_zero_le hy0
    rcases shortLen_dist hg ha (show x < g.vals.length by omega) (show y < g.vals.length by omega) with ⟨h1, _⟩ | ⟨h1, _⟩
    · exact h1
    · omega

/-! ### The results -/
def cwI (g : Gr) (a : Au) (x y : Int) (f : Nat) : Nat := cw g a y f x.toNat (bit a.start.toNat)
theorem cwI_le (g : Gr) (a : Au) (x y : Int) (f : Nat) : cwI g a x y f ≤ 1000000 := cw_le ..
def nthI (g : Gr) (a : Au) (x y : Int) (f n : Nat) : List St := nthL g a y f x.toNat (bit a.start.toNat) n
def cntWalks (g : Gr) (a : Au) (x y n : Int) : Int := if (cntOk g a x y && wi n 0 60) = true then (cwI g a x y n.toNat : Nat) else 0
def cntShort (g : Gr) (a : Au) (x y : Int) : Int := if shortLen g a x y < 0 then 0 else (cwI g a x y (shortLen g a x y).toNat : Nat)
def nthSh (g : Gr) (a : Au) (x y n : Int) : Bool := decide (0 ≤ shortLen g a x y) && wi n 0 ((cwI g a x y (shortLen g a x y).toNat : Nat) - 1)
def nthShort (g : Gr) (a : Au) (x y n : Int) : Wk × Bool := if nthSh g a x y n = true then ((x, nthI g a x y (shortLen g a x y).toNat n.toNat), true) else ((0, []), false)
def nthWalkP (g : Gr) (a : Au) (x y : Int) (n : Nat) : Wk × Bool := match pick (cwI g a x y) (List.range 61) n with
  | none => ((0, []), false)
  | some (f, n') => ((x, nthI g a x y f n'), true)
def nthWalk (g : Gr) (a : Au) (x y n : Int) : Wk × Bool := if (decide (0 ≤ shortLen g a x y) && wi n 0 999999) = true then nthWalkP g a x y n.toNat else ((0, []), false)
theorem nthShort_len (g : Gr) (a : Au) (x y n : Int) : (nthShort g a x y n).1.2.length ≤ 60 := by
  unfold nthShort
  split
  · rename_i h
    rw [nthSh, Bool.and_eq_true, wi_iff, decide_eq_true_eq] at h
    have h2 := shortLen_lt g a x y
    show (nthI ..).length ≤ 60
    rw [nthI, nthL_len]
    · omega
    · have : n.toNat < cwI g a x y (shortLen g a x y).toNat := by omega
      exact this
  · simp
theorem pick_some {α : Type} {k : α → Nat} : ∀ {l : List α} {n n' : Nat} {p : α}, pick k l n = some (p, n') → p ∈ l ∧ n' < k p
  | [], n, n', p, h => by cases h
  | q :: l, n, n', p, h => by
    rw [pick] at h
    split at h
    · rename_i hn
      injection h with h
      injection h with h1 h2
      subst h1 h2
      exact ⟨List.mem_cons_self .., hn⟩
    · have := pick_some h
      exact ⟨List.mem_cons_of_mem _ this.1, this.2⟩
theorem nthWalk_len (g : Gr) (a : Au) (x y n : Int) : (nthWalk g a x y n).1.2.length ≤ 60 := by
  unfold nthWalk
  split
  · unfold nthWalkP
    split
    · simp
    · rename_i f n' h
      obtain ⟨h1, h2⟩ := pick_some h
      have := List.mem_range.1 h1
      show (nthI ..).length ≤ 60
      rw [nthI, nthL_len h2]
      omega
  · simp
end Go.Proofs.Ytlhpcknpjdeebaa

/- The program's CountShortest, CountWalks, NthShortest, LeastWitness, NthWalk. -/
namespace Go.Proofs.Ytlhpcknpjdeebaa
set_option linter.unusedVariables false
set_option linter.unusedSimpArgs false
open Go.ChangeShapes Go.WideShapes Go.ChangeAt Go.RowKit Go.Maps
attribute [local go_sem] ext_cell ext_frozen ext_lt ext_lt1 ext_lt2 ext_lt3 ltn2 ltn3 ltn13 lts1 lts2 lts3

theorem startOk {a : Au} (ha : auOk a = true) : bit a.start.toNat < 2 ^ a.accept.length := by
  obtain ⟨⟨_, hn⟩, ⟨h0, h1⟩, -, -⟩ := auOk_iff.1 ha
  exact bit_lt (by omega)
theorem Left.below {g : Gr} {a : Au} {y : Int} {f : Nat} {M : List Plc} {bM : Nat} {w w' : World} (h : Left g a y f M bM w w') {B : Nat} (hB : B ≤ bM) (hs : B ≤ w.heap.size) : Below B w w' := h.1.below hB hs

set_option maxHeartbeats 8000000 in
set_option maxRecDepth 100000 in
theorem implNthShortest (vg va : Value) (g : Gr) (a : Au) (x y n : Int) (w : World) (hgv : GrV 0 w.heap.size w vg g) (hav : AuV 0 w.heap.size w va a) :
    Calls Try.prog 69 #[vg, va, .int .i64 x, .int .i64 y, .int .i64 n] w fun e w' => ∃ v', e = .returned (.tuple #[v', .bool (nthShort g a x y n).2]) ∧ WkO w.heap.size w'.heap.size w' v' (nthShort g a x y n).1 ∧ Below w.heap.size w w' := by
  have hgv0 := hgv
  have hav0 := hav
  obtain ⟨A1, n1, c1, A2, n2, c2, rfl⟩ := hgv.shape
  obtain ⟨A3, n3, c3, A4, n4, c4, rfl⟩ := hav.shape
  have hb0 : Below w.heap.size w (((w.alloc (.cells #[.slice A1 n1 c1, .slice A2 n2 c2] 39)).alloc (.cells #[.int .i64 a.start, .slice A3 n3 c3, .slice A4 n4 c4] 41)).alloc (.cells #[.int .i64 0, .slice none 0 0] 34)) := (((Below.refl _ _).alloc (Nat.le_refl _) _).alloc (by simp) _).alloc (by simp; omega) _
  have hbG := ((Blk.new w 39 #[.slice A1 n1 c1, .slice A2 n2 c2] w.heap.size rfl).alloc (.cells #[.int .i64 a.start, .slice A3 n3 c3, .slice A4 n4 c4] 41)).alloc (.cells #[.int .i64 0, .slice none 0 0] 34)
  have hbA := (Blk.new (w.alloc (.cells #[.slice A1 n1 c1, .slice A2 n2 c2] 39)) 41 #[.int .i64 a.start, .slice A3 n3 c3, .slice A4 n4 c4] (w.heap.size + 1) (by simp)).alloc (.cells #[.int .i64 0, .slice none 0 0] 34)
  have hbR := Blk.new ((w.alloc (.cells #[.slice A1 n1 c1, .slice A2 n2 c2] 39)).alloc (.cells #[.int .i64 a.start, .slice A3 n3 c3, .slice A4 n4 c4] 41)) 34 #[.int .i64 0, .slice none 0 0] (w.heap.size + 1 + 1) (by simp)
  have HBG := Lib.hid hbG
  have HBA := Lib.hid hbA
  have HBR := Lib.hid hbR
  have HGV := Lib.hid hgv0
  have HAV := Lib.hid hav0
  have HB0 := Lib.hid hb0
  have HSL := Lib.hid (fun (W : World) (hW : Below w.heap.size w W) => implShortestLength _ _ g a x y W (HGV.out.keep hW) (HAV.out.keep hW))
  clear hgv hav hgv0 hav0 hb0 hbG hbA hbR
  obtain ⟨R, hR⟩ : ∃ R, R = nthShort g a x y n := ⟨_, rfl⟩
  rw [← hR]
  by_cases hneg : shortLen g a x y < 0
  · have HF := Lib.hid (show R = ((0, []), false) by rw [hR, nthShort, if_neg]; rw [nthSh, decide_eq_false (by omega)]; simp)
    generalize shortLen g a x y = SL at *
    clear hR
    go_enter Try.func69, Try.ntmps69
    go_wp2_with fail
    refine (HSL.out _ HB0.out).mono ?_
    rintro e w1 ⟨rfl, hb1⟩
    have hb2 := below_trans HB0.out hb1
    have bR := HBR.out.keep hb1
    have r0 : w1.cell? ⟨w.heap.size + 1 + 1, 0, none⟩ = some (.int .i64 0) := bR.cell 0
    have r1 : w1.cell? ⟨w.heap.size + 1 + 1, 1, none⟩ = some (.slice none 0 0) := bR.cell 1
    have fr0 := bR.frozen 0
    have fr1 := bR.frozen 1
    have lr := bR.lt
    clear bR
    clear hb1
    go_wp2_with fail
    refine bodyPost_ret (v := .tuple #[.agg #[.int .i64 0, .slice none 0 0], .bool false]) (by simp [results, Try.results69, go_sem, r0, r1]) rfl ⟨_, by rw [HF.out], ?_, (hb2.setCell (p := ⟨w.heap.size + 1 + 1, 0, none⟩) (by simp only; omega) _).setCell (p := ⟨w.heap.size + 1 + 1, 1, none⟩) (by simp only; omega) _⟩
    rw [HF.out]
    exact ⟨_, rfl, Own.nil _ _ _ _ _ _⟩
  · have hco := shortLen_ok (show 0 ≤ shortLen g a x y by omega)
    obtain ⟨⟨hx0, hx1⟩, ⟨hy0, hy1⟩, hgo, ha⟩ := cntOk_iff.1 hco
    have hlt := shortLen_lt g a x y
    obtain ⟨L, hL⟩ := Int.eq_ofNat_of_zero_le (show 0 ≤ shortLen g a x y by omega)
    rw [hL] at HSL hlt hneg
    obtain ⟨x, rfl⟩ := Int.eq_ofNat_of_zero_le hx0
    have HGO := Lib.hid hgo
    have HA := Lib.hid ha
    have HSO := Lib.hid (startOk ha)
    have hn5 := (grOk_iff.1 hgo).n5
    have hxl : x < g.vals.length := by omega
    have hln : ¬ (L : Int) < 0 := by omega
    have hcle := cw_le g a y L x (bit a.start.toNat)
    obtain ⟨C, hC⟩ : ∃ C, C = cw g a y L x (bit a.start.toNat) := ⟨_, rfl⟩
    have hsh : nthSh g a (x : Int) y n = wi n 0 ((C : Int) - 1) := by rw [nthSh, decide_eq_true (by omega), Bool.true_and, hL, Int.toNat_natCast, hC]; rfl
    rw [← hC] at hcle
    have HC := Lib.hid hC
    have HW := Lib.hid (fun W => within_any n 0 ((C : Int) - 1) W)
    have hgv2 := HGV
    cases hwn : wi n 0 ((C : Int) - 1) with
    | false =>
      have HF := Lib.hid (show R = ((0, []), false) by rw [hR, nthShort, if_neg]; rw [hsh, hwn]; simp)
      rw [hwn] at HW
      clear hco hgo ha hL hneg hx0 hx1 hy0 hy1 hR hC hsh hwn
      go_enter Try.func69, Try.ntmps69
      go_wp2_with fail
      refine (HSL.out _ HB0.out).mono ?_
      rintro e w1 ⟨rfl, hb1⟩
      have hb2 := below_trans HB0.out hb1
      have bG := HBG.out.keep hb1
      have bA := HBA.out.keep hb1
      have x0 : w1.cell? ⟨w.heap.size, 0, none⟩ = some (.slice A1 n1 c1) := bG.cell 0
      have x1 : w1.cell? ⟨w.heap.size, 1, none⟩ = some (.slice A2 n2 c2) := bG.cell 1
      have y0 : w1.cell? ⟨w.heap.size + 1, 0, none⟩ = some (.int .i64 a.start) := bA.cell 0
      have y1 : w1.cell? ⟨w.heap.size + 1, 1, none⟩ = some (.slice A3 n3 c3) := bA.cell 1
      have y2 : w1.cell? ⟨w.heap.size + 1, 2, none⟩ = some (.slice A4 n4 c4) := bA.cell 2
      clear bG bA
      have HR1 := Lib.hid (HBR.out.keep hb1)
      clear hb1
      go_wp2_with fail
      refine (newCounter_any _ _ g a y _ (HGV.out.keep hb2) (HAV.out.keep hb2) HGO.out HA.out).mono ?_
      rintro e w2 ⟨bC, bM, rfl, hbM, hctr, hmem, hb3⟩
      have hb4 := below_trans hb2 hb3
      have hwM : w.heap.size ≤ bM := Nat.le_trans hb2.size hbM
      have hsz3 := hb3.size
      have lbMw := hmem.lt
      have HR2 := Lib.hid (HR1.out.keep hb3)
      clear hb3 x0 x1 y0 y1 y2
      go_wp2_with fail
      refine (start_any g a y HA.out bC bM x L _ hctr (by omega) (by omega)).mono ?_
      rintro e w3 ⟨rfl, hb5⟩
      have hbQ := (Below.refl w3.heap.size w3).alloc (Nat.le_refl _) (.cells #[.int .i64 (x : Int), .int .i64 (bit a.start.toNat : Nat), .int .i64 (L : Int)] 82)
      have hb6 := below_trans hb5 hbQ
      go_wp2_with fail
      refine (count_any g a y HGO.out HA.out bC bM L x _ [] _ (hctr.keep hb6) (hmem.keep hb6) hxl HSO.out (by omega)).mono ?_
      rintro e w4 ⟨rfl, hleft⟩
      rw [← HC.out]
      have hb7 := below_trans hb4 hb6
      have hb8 := hb7.trans (hleft.below hwM hb7.size)
      have hR4 := (HR2.out.keep hb6).only hleft.1 (.inl (by have := HR1.out.lt; omega))
      have bR := hR4
      have r0 : w4.cell? ⟨w.heap.size + 1 + 1, 0, none⟩ = some (.int .i64 0) := bR.cell 0
      have r1 : w4.cell? ⟨w.heap.size + 1 + 1, 1, none⟩ = some (.slice none 0 0) := bR.cell 1
      have fr0 := bR.frozen 0
      have fr1 := bR.frozen 1
      have lr := bR.lt
      clear bR
      clear hleft hb5 hbQ hb6 hR4
      go_wp2_with fail
      refine (HW.out _).mono ?_
      rintro e w9 ⟨rfl, hw9⟩
      rw [hw9]
      clear hw9
      go_wp2_with fail
      refine bodyPost_ret (v := .tuple #[.agg #[.int .i64 0, .slice none 0 0], .bool false]) (by simp [results, Try.results69, go_sem, r0, r1]) rfl ⟨_, by rw [HF.out], ?_, (hb8.setCell (p := ⟨w.heap.size + 1 + 1, 0, none⟩) (by simp only; omega) _).setCell (p := ⟨w.heap.size + 1 + 1, 1, none⟩) (by simp only; omega) _⟩
      rw [HF.out]
      exact ⟨_, rfl, Own.nil _ _ _ _ _ _⟩
    | true =>
      have hwi := wi_iff.1 hwn
      obtain ⟨n, rfl⟩ := Int.eq_ofNat_of_zero_le hwi.1
      have HF := Lib.hid (show R = (((x : Int), nthL g a y L x (bit a.start.toNat) n), true) by rw [hR, nthShort, if_pos (by rw [hsh, hwn]), hL]; rfl)
      have HNN := Lib.hid (show n < cw g a y L x (bit a.start.toNat) by rw [← hC]; omega)
      rw [hwn] at HW
      clear hco hgo ha hL hneg hx0 hx1 hy0 hy1 hR hC hsh hwn hwi
      go_enter Try.func69, Try.ntmps69
      go_wp2_with fail
      refine (HSL.out _ HB0.out).mono ?_
      rintro e w1 ⟨rfl, hb1⟩
      have hb2 := below_trans HB0.out hb1
      have bG := HBG.out.keep hb1
      have bA := HBA.out.keep hb1
      have x0 : w1.cell? ⟨w.heap.size, 0, none⟩ = some (.slice A1 n1 c1) := bG.cell 0
      have x1 : w1.cell? ⟨w.heap.size, 1, none⟩ = some (.slice A2 n2 c2) := bG.cell 1
      have y0 : w1.cell? ⟨w.heap.size + 1, 0, none⟩ = some (.int .i64 a.start) := bA.cell 0
      have y1 : w1.cell? ⟨w.heap.size + 1, 1, none⟩ = some (.slice A3 n3 c3) := bA.cell 1
      have y2 : w1.cell? ⟨w.heap.size + 1, 2, none⟩ = some (.slice A4 n4 c4) := bA.cell 2
      clear bG bA
      have HR1 := Lib.hid (HBR.out.keep hb1)
      clear hb1
      go_wp2_with fail
      refine (newCounter_any _ _ g a y _ (HGV.out.keep hb2) (HAV.out.keep hb2) HGO.out HA.out).mono ?_
      rintro e w2 ⟨bC, bM, rfl, hbM, hctr, hmem, hb3⟩
      have hb4 := below_trans hb2 hb3
      have hwM : w.heap.size ≤ bM := Nat.le_trans hb2.size hbM
      have hsz3 := hb3.size
      have lbMw := hmem.lt
      have HR2 := Lib.hid (HR1.out.keep hb3)
      clear hb3 x0 x1 y0 y1 y2
      go_wp2_with fail
      refine (start_any g a y HA.out bC bM x L _ hctr (by omega) (by omega)).mono ?_
      rintro e w3 ⟨rfl, hb5⟩
      have hbQ := (Below.refl w3.heap.size w3).alloc (Nat.le_refl _) (.cells #[.int .i64 (x : Int), .int .i64 (bit a.start.toNat : Nat), .int .i64 (L : Int)] 82)
      have bQ := Blk.new w3 82 #[.int .i64 (x : Int), .int .i64 (bit a.start.toNat : Nat), .int .i64 (L : Int)] w3.heap.size rfl
      have hb6 := below_trans hb5 hbQ
      go_wp2_with fail
      refine (count_any g a y HGO.out HA.out bC bM L x _ [] _ (hctr.keep hb6) (hmem.keep hb6) hxl HSO.out (by omega)).mono ?_
      rintro e w4 ⟨rfl, hleft⟩
      rw [← HC.out]
      have hb7 := below_trans hb4 hb6
      have hb8 := hb7.trans (hleft.below hwM hb7.size)
      have hR4 := (HR2.out.keep hb6).only hleft.1 (.inl (by have := HR1.out.lt; omega))
      have bQ4 := bQ.only hleft.1 (.inr (by have := hb5.size; omega))
      have q0 : w4.cell? ⟨w3.heap.size, 0, none⟩ = some (.int .i64 (x : Int)) := bQ4.cell 0
      have q1 : w4.cell? ⟨w3.heap.size, 1, none⟩ = some (.int .i64 (bit a.start.toNat : Nat)) := bQ4.cell 1
      have q2 : w4.cell? ⟨w3.heap.size, 2, none⟩ = some (.int .i64 (L : Int)) := bQ4.cell 2
      have lQ := bQ4.lt
      obtain ⟨hon4, M4, hm4, -⟩ := hleft
      have HCT4 := Lib.hid ((hctr.keep hb6).only hon4)
      have HM4 := Lib.hid hm4
      have HR4 := Lib.hid hR4
      clear hb5 hbQ hb6 hR4 bQ bQ4 hm4 hon4
      go_wp2_with fail
      refine (HW.out _).mono ?_
      rintro e w9 ⟨rfl, hw9⟩
      rw [hw9]
      clear hw9
      go_wp2_with fail
      refine (nth_any g a y HGO.out HA.out bC bM L x _ n M4 w4 HCT4.out HM4.out hxl HSO.out (by omega) HNN.out).mono ?_
      rintro e w5 ⟨v5, rfl, ho5, hon5, M5, hm5⟩
      have hb9 := hb8.trans (hon5.below hwM hb8.size)
      have hR5 := HR4.out.only hon5 (.inl (by have := HR1.out.lt; omega))
      have bR := hR5
      have r0 : w5.cell? ⟨w.heap.size + 1 + 1, 0, none⟩ = some (.int .i64 0) := bR.cell 0
      have r1 : w5.cell? ⟨w.heap.size + 1 + 1, 1, none⟩ = some (.slice none 0 0) := bR.cell 1
      have fr0 := bR.frozen 0
      have fr1 := bR.frozen 1
      have lr := bR.lt
      clear bR
      obtain ⟨A9, n9, c9, rfl⟩ := ho5.shape
      have hsz4 := hb8.size
      have lr4 := HR4.out.lt
      have hon3 := ((Only.refl (w.heap.size + 1 + 1) (w.heap.size + 1 + 1 + 1) w5).setCell (p := ⟨w.heap.size + 1 + 1, 0, none⟩) (.inl ⟨Nat.le_refl _, Nat.lt_succ_self _⟩) (.int .i64 (x : Int))).setCell (p := ⟨w.heap.size + 1 + 1, 1, none⟩) (.inl ⟨Nat.le_refl _, Nat.lt_succ_self _⟩) (.slice A9 n9 c9)
      have HO5 := Lib.hid ((ho5.only hon3 (.inr (by omega))).mono (show w.heap.size ≤ w4.heap.size by omega) hon3.size)
      have HB5 := Lib.hid (hb9.trans (hon3.below (show w.heap.size ≤ w.heap.size + 1 + 1 by omega) hb9.size))
      clear ho5 hon5 hm5 hR5 hon3 q0 q1 q2
      go_wp2_with fail
      refine bodyPost_ret (v := .tuple #[.agg #[.int .i64 (x : Int), .slice A9 n9 c9], .bool true]) (by simp [results, Try.results69, go_sem, r0, r1]) rfl ⟨_, by rw [HF.out], ?_, HB5.out⟩
      rw [HF.out]
      exact ⟨_, rfl, HO5.out⟩
end Go.Proofs.Ytlhpcknpjdeebaa

