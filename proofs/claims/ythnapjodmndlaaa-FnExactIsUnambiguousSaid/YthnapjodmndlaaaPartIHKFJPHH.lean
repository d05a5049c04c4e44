/- Parts of the proof, joined into one text: PairS, FarS, AmbS, AutI, SetI. -/
import Derived.Test.YthnapjodmndlaaaPartCGJCNAEI
import Derived.Test.YthnapjodmndlaaaPartBGGGGECN
import Derived.Test.YthnapjodmndlaaaPartLCJMOOFA
import Derived.Test.YthnapjodmndlaaaPartKIJKDOCI
/- The reference's l10Pairs gives the pairs and the edges between them. -/
namespace Go.Proofs.Ythnapjodmndlaaa
set_option linter.unusedVariables false
set_option linter.unusedSimpArgs false
open Go.ChangeShapes Go.WideShapes Go.ChangeAt Go.RowKit
attribute [local go_sem] ext_cell ext_frozen ext_lt ext_lt1 ext_lt2 ext_lt3 ltn2 ltn3 ltn13 lts1 lts2 lts3

def PrS (lo : Nat) (w0 wr : World) (vl ve : Value) (g : Nat) (p : Pz) (k n : Nat) (cur : List Twn) : Prop := ∃ T, PrR lo w0 wr vl ve g (listT p k n cur) (edgT p k n cur) T ∧ TabOk (listT p k n cur) T
theorem PrS.below {lo : Nat} {w0 wr w4 : World} {vl ve : Value} {g : Nat} {p : Pz} {k n : Nat} {cur : List Twn} (h : PrS lo w0 wr vl ve g p k n cur) (hs : lo ≤ w0.heap.size) (hb : Below wr.heap.size wr w4) : PrS lo w0 w4 vl ve g p k n cur := by
  obtain ⟨T, h1, h2⟩ := h
  exact ⟨T, h1.below hs hb, h2⟩
theorem PrS.bel {lo : Nat} {w0 wr : World} {vl ve : Value} {g : Nat} {p : Pz} {k n : Nat} {cur : List Twn} (h : PrS lo w0 wr vl ve g p k n cur) : Below lo w0 wr := by
  obtain ⟨T, h1, h2⟩ := h
  exact h1.bel
theorem PrS.pair {lo : Nat} {w0 wr : World} {vl ve : Value} {g : Nat} {p : Pz} {k : Nat} (h : PrS lo w0 wr vl ve g p k 9 []) (hk : k < (allT p k).length) (h9 : k ≤ 882) : PrS lo w0 wr vl ve g p (k + 1) 0 [] := by
  unfold PrS at h ⊢
  rw [listT_nine hk h9, edgT_nine] at h
  exact h
theorem PrS.letter {lo : Nat} {w0 wr : World} {vl ve : Value} {g : Nat} {p : Pz} {k n : Nat} (h : PrS lo w0 wr vl ve g p k n (twnX p n (twnA p k))) : PrS lo w0 wr vl ve g p k (n + 1) [] := by
  unfold PrS at h ⊢
  rw [listT_next, edgT_next] at h
  exact h
theorem mem_pre (X : Nat) {i n : Nat} (h : i ≤ n) : mem i X <+: mem n X := by
  induction n with
  | zero => rw [show i = 0 by omega]; exact List.prefix_refl _
  | succ n ih =>
    rcases Nat.lt_or_ge n i with h1 | h1
    · rw [show i = n + 1 by omega]; exact List.prefix_refl _
    · rw [mem_succ]; exact (ih h1).trans (List.prefix_append _ _)
theorem upC_pre (d : Bool) (X Y i j : Nat) (hi : i ≤ 20) (hj : j ≤ 21) : (upT d X Y i ++ rowC (X.testBit i) d i Y j) <+: upT d X Y 21 := by
  have h1 : upT d X Y (i + 1) <+: upT d X Y 21 := by
    obtain ⟨r, hr⟩ := mem_pre X (show i + 1 ≤ 21 by omega)
    rw [upT, upT, ← hr, List.flatMap_append]
    exact List.prefix_append _ _
  refine List.IsPrefix.trans ?_ h1
  rw [upT_succ]
  refine (List.prefix_append_right_inj _).2 ?_
  rw [rowC, rowC]
  split
  · obtain ⟨r, hr⟩ := mem_pre Y hj
    rw [rowT, rowT, ← hr, List.map_append]
    exact List.prefix_append _ _
  · exact List.prefix_refl _
theorem PrS.start {w w0 w1 : World} {p : Pz} (hsz : w0.heap.size = w.heap.size + 1) (hrow : w1.ownsRow w0.heap.size 3 1 (.slice (some ⟨w.heap.size + 1 + 1 + 1, 0, none⟩) 882 882) 882 ((List.replicate 882 (0 : Int)).flatMap cI))
    (hb : Below (w.heap.size + 1 + 1 + 1) ((w0.alloc (.cells #[.int .i64 0, .int .i64 0, .bool false, .int .i64 0, .int .i64 0] 67)).alloc (.cells #[] 51)) w1) :
    PrS (w.heap.size + 1) w0 w1 (.slice (some ⟨w.heap.size + 1, 0, none⟩) 1 1) (.slice (some ⟨w.heap.size + 1 + 1, 0, none⟩) 0 0) (w.heap.size + 1 + 1 + 1) p 0 0 [] := by
  refine ⟨List.replicate 882 0, ⟨?_, ?_, ?_, ?_, ?_, ?_, ?_⟩, TabOk.start⟩
  · have h := World.ownsRow_lit (base := w.heap.size + 1) (e := 67) (size := 5) w0 #[.int .i64 0, .int .i64 0, .bool false, .int .i64 0, .int .i64 0] 1 (by omega) (by decide) rfl
    rw [hsz] at h
    exact ownsRow_below (h.alloc (.cells #[] 51)) hb (by simp; omega)
  · have h := World.ownsRow_lit (base := w.heap.size + 1) (e := 51) (size := 3) (w0.alloc (.cells #[.int .i64 0, .int .i64 0, .bool false, .int .i64 0, .int .i64 0] 67)) #[] 0 (by simp; omega) (by decide) rfl
    have e : (w0.alloc (.cells #[.int .i64 0, .int .i64 0, .bool false, .int .i64 0, .int .i64 0] 67)).heap.size = w.heap.size + 1 + 1 := by simp; omega
    rw [e] at h
    exact ownsRow_below h hb (by simp; omega)
  · have h := hrow
    rw [hsz] at h
    exact h
  · intro b h1 h2
    simp only [Value.ownBlock, Option.map_some, Option.some.injEq] at h1 h2
    omega
  · simp only [Value.ownBlock, Option.map_some, ne_eq, Option.some.injEq]
    omega
  · simp only [Value.ownBlock, Option.map_some, ne_eq, Option.some.injEq]
    omega
  · exact (((Below.refl _ _).alloc (by omega) _).alloc (by simp; omega) _).trans (hb.mono (by omega))
set_option maxRecDepth 100000 in
set_option maxHeartbeats 8000000 in
theorem specPairs (v : Value) (p : Pz) (w : World) (hv : PzV 0 w.heap.size w v p) (hok : pzOk p = true) :
    Calls Try.prog 27 #[v] w fun e w' => ∃ vl ve, e = .returned (.tuple #[vl, ve]) ∧ Own w.heap.size w'.heap.size w' 67 cNt 5 vl (endT p) ∧ Own w.heap.size w'.heap.size w' 51 cEg 3 ve (edsT p) ∧ Below w.heap.size w w' := by
  have HV := Lib.hid hv
  have HOK := Lib.hid hok
  have hpf := pz_facts hok
  have h20 := hpf.1
  obtain ⟨vl, vf, rfl, ⟨A, c, rfl, -, -, -⟩, h2⟩ := hv
  obtain ⟨B, n2, c2, rfl⟩ := h2.shape
  obtain ⟨N, hN⟩ : ∃ N, N = p.lets.length := ⟨_, rfl⟩
  rw [← hN] at h20
  have HN := Lib.hid hN
  have HAF := Lib.hid (fun (s k : Nat) (W : World) (h : Below w.heap.size w W) (hs : s < 2 ^ 21) => specAfter _ p s (k : Int) W (HV.out.keep h) HOK.out hs)
  rw [← hN] at HAF ⊢
  obtain ⟨W0, hW0⟩ : ∃ W0, W0 = w.alloc (.cells #[.slice A N c, .int .i64 p.first, .int .i64 p.last, .slice B n2 c2, .bool p.nul] 27) := ⟨_, rfl⟩
  have hbp : Blk W0 w.heap.size 27 #[.slice A N c, .int .i64 p.first, .int .i64 p.last, .slice B n2 c2, .bool p.nul] := by rw [hW0]; exact Blk.new _ _ _ _ rfl
  have hb0 : Below w.heap.size w W0 := by rw [hW0]; exact (Below.refl _ _).alloc (Nat.le_refl _) _
  have hsz : W0.heap.size = w.heap.size + 1 := by rw [hW0]; simp
  have HBP := Lib.hid hbp
  have HB0 := Lib.hid hb0
  clear hpf h2 hok hN hbp hb0
  go_enter Try.func27, Try.ntmps27
  go_upto_region 1 with fail
  rw [← hW0]
  clear hW0
  go_wp2_with (at_make; refine wpList_makeE (P := Try.prog) cI (0 : Int) elInt rfl rfl rfl _ _ rfl W0.heap.size 882 _ (by rfl) (by rfl) rfl (by omega) (by unfold maxLen; omega) (by simp; omega) ?_; intro w1 hrow1 hbel1)
  have esz : ∀ a b, ((W0.alloc a).alloc b).heap.size = w.heap.size + 1 + 1 + 1 := fun a b => by simp [hsz]
  rw [esz] at hrow1 hbel1
  have hst := PrS.start (p := p) hsz hrow1 hbel1
  have HST := Lib.hid hst
  clear hst esz hrow1 hbel1
  have hs0 : w.heap.size + 1 ≤ W0.heap.size := by omega
  go_loopw [4, 5, 7, 8, 9, 10, 11, 12, 13] (fun ll ee kk _ _ _ _ _ _ wr => ∃ k : Nat, k ≤ (allT p k).length ∧ kk = .int .i64 (k : Int) ∧ PrS (w.heap.size + 1) W0 wr ll ee (w.heap.size + 1 + 1 + 1) p k 0 []) (fun _ _ kk _ _ _ _ _ _ _ => 882 - (intOf kk).toNat)
  case atStart => exact ⟨0, Nat.zero_le _, rfl, HST.out⟩
  case round =>
    clear HST
    obtain ⟨k, hk, rfl, hps⟩ := hrel
    obtain ⟨wo, rfl⟩ : ∃ wo : World, wo = wr := ⟨_, rfl⟩
    have HPS := Lib.hid hps
    have h882 := allT_len (p := p) (by rw [← HN.out]; exact h20) k
    have hLpos : (allT p k).length ≠ 0 := by
      have h1 := (List.getElem?_eq_some_iff.1 (listT_start (p := p) (k := k) (n := 0) (cur := []))).1
      rw [listT_zero] at h1
      omega
    obtain ⟨M, hM⟩ : ∃ M, M = (allT p k).length := ⟨_, rfl⟩
    rw [← hM] at hk h882 hLpos
    obtain ⟨T, hpr, htab⟩ := hps
    have hls := hpr.ls
    rw [listT_zero, ← hM] at hls
    obtain ⟨gl, cl, rfl, -⟩ := own_some hls hLpos
    obtain ⟨A5, n5, c5, rfl⟩ := (Own.of_row hpr.es rfl rfl).shape
    have HM := Lib.hid hM
    clear hpr htab hls hLpos hM
    by_cases hlt : k < M
    · go_wp2_with fail
      have HKL := Lib.hid (show k < (allT p k).length by rw [← HM.out]; exact hlt)
      have hk8 : k < 882 := by omega
      clear hlt
      go_loopw [4, 5, 8, 9, 10, 11, 12, 13] (fun ll ee nn _ _ _ _ _ wr => ∃ n : Nat, n ≤ 9 ∧ nn = .int .i64 (n : Int) ∧ PrS (w.heap.size + 1) W0 wr ll ee (w.heap.size + 1 + 1 + 1) p k n []) (fun _ _ nn _ _ _ _ _ _ => 9 - (intOf nn).toNat)
      case atStart => exact ⟨0, by omega, rfl, HPS.out⟩
      case round =>
        clear HPS
        obtain ⟨n, hn, rfl, hps⟩ := hrel
        obtain ⟨wm, rfl⟩ : ∃ wm : World, wm = wr := ⟨_, rfl⟩
        have HPS := Lib.hid hps
        by_cases hn9 : n < 9
        · have hbl := hps.bel
          have hbb := HB0.out.trans (hbl.mono (show w.heap.size ≤ w.heap.size + 1 by omega))
          have hbp : Blk wm w.heap.size 27 #[.slice A N c, .int .i64 p.first, .int .i64 p.last, .slice B n2 c2, .bool p.nul] := (hbl.block w.heap.size (by omega)).trans HBP.out
          have hat := listT_low (p := p) (k := k) (n := n) (cur := []) HKL.out (by omega)
          obtain ⟨T, hpr, htab⟩ := hps
          have hkm := (List.getElem?_eq_some_iff.1 hat).1
          obtain ⟨ML, hML⟩ : ∃ ML, ML = (listT p k n []).length := ⟨_, rfl⟩
          have hls := hpr.ls
          rw [← hML] at hls hkm
          obtain ⟨gm, cm, rfl, hgm, hgmw, -, -⟩ := own_some hls (by omega)
          obtain ⟨b1, o1, e1, -, d0, d1, d2⟩ := ((Own.of_row hpr.ls rfl rfl).sl cNt_len).nt hat
          cases e1
          have hki : (k : Int) < (ML : Int) := by omega
          rw [Nat.zero_add] at d0 d1 d2
          obtain ⟨⟨ta, tb, td⟩, ht⟩ : ∃ t, t = twnA p k := ⟨_, rfl⟩
          rw [← ht] at d0 d1 d2
          have HT := Lib.hid ht
          obtain ⟨hta, htb⟩ : ta ≤ 20 ∧ tb ≤ 20 := by
            have := allT_low (p := p) (by rw [← HN.out]; exact h20) (List.mem_of_getElem? (endT_all (p := p) (k := k) HKL.out (by omega)))
            rw [← ht] at this
            exact this
          simp only at d0 d1 d2
          have hba : bit ta < 2 ^ 21 := Nat.pow_lt_pow_right (by decide) (by omega)
          have hbb1 : bit tb < 2 ^ 21 := Nat.pow_lt_pow_right (by decide) (by omega)
          have hsa := shl_bit2 (s := ta) (by omega)
          have hsb := shl_bit2 (s := tb) (by omega)
          have hsa3 := shl_bit3 (s := ta) (by omega)
          have hsb3 := shl_bit3 (s := tb) (by omega)
          have hnn : (n : Int) < 9 := by omega
          have x0 : wm.cell? ⟨w.heap.size, 0, none⟩ = some (.slice A N c) := by exact hbp.cell 0
          have x1 : wm.cell? ⟨w.heap.size, 1, none⟩ = some (.int .i64 p.first) := by exact hbp.cell 1
          have x2 : wm.cell? ⟨w.heap.size, 2, none⟩ = some (.int .i64 p.last) := by exact hbp.cell 2
          have x3 : wm.cell? ⟨w.heap.size, 3, none⟩ = some (.slice B n2 c2) := by exact hbp.cell 3
          have x4 : wm.cell? ⟨w.heap.size, 4, none⟩ = some (.bool p.nul) := by exact hbp.cell 4
          have hl0 := hbp.lt
          have HBB := Lib.hid hbb
          have HBL := Lib.hid hbl
          clear hpr htab hat ht hML hbp hbb hbl hls
          obtain ⟨X, hX⟩ : ∃ X, X = aftP p (bit ta) (n : Int) := ⟨_, rfl⟩
          obtain ⟨Y, hY⟩ : ∃ Y, Y = aftP p (bit tb) (n : Int) := ⟨_, rfl⟩
          have HCA := Lib.hid (fun (W : World) (h : Below w.heap.size w W) => HAF.out (bit ta) n W h hba)
          have HCB := Lib.hid (fun (W : World) (h : Below w.heap.size w W) => HAF.out (bit tb) n W h hbb1)
          rw [← hX] at HCA
          rw [← hY] at HCB
          have hX2 := aftP_lt2 p (bit ta) (n : Int)
          have hY2 := aftP_lt2 p (bit tb) (n : Int)
          have hX0 := aftP_zero p (bit ta) (n : Int)
          have hY0 := aftP_zero p (bit tb) (n : Int)
          rw [← hX, ← HN.out] at hX2
          rw [← hY, ← HN.out] at hY2
          rw [← hX] at hX0
          rw [← hY] at hY0
          have HTX := Lib.hid (show twnX p n (twnA p k) = upT td X Y 21 by rw [← HT.out, hX, hY]; rfl)
          clear hX hY
          go_upto_region 10 with fail
          refine wp_region_ext_lit (by kernel_rfl) (by kernel_rfl) ?_
          repeat (go_big_quiet_step ((go_at_call 42; exact Calls.ext_of (HCA.out _ (below_trans HBB.out (ext_below _ _))))))
          refine wpQuiet_nil ?_
          intro _ hw'
          obtain ⟨u2, hw''⟩ := hw'
          subst hw''
          have x0 := kcell (ext_below wm u2) x0
          have x1 := kcell (ext_below wm u2) x1
          have x2 := kcell (ext_below wm u2) x2
          have x3 := kcell (ext_below wm u2) x3
          have x4 := kcell (ext_below wm u2) x4
          have d0 := kcell (ext_below wm u2) d0
          have d1 := kcell (ext_below wm u2) d1
          have d2 := kcell (ext_below wm u2) d2
          have hs2 := (ext_below wm u2).size
          have HBB := Lib.hid (below_trans HBB.out (ext_below wm u2))
          have HPS := Lib.hid (HPS.out.below hs0 (ext_below wm u2))
          generalize ext wm u2 = wn at *
          have hgw := Nat.lt_of_lt_of_le hgmw hs2
          have hlw := Nat.lt_of_lt_of_le hl0 hs2
          go_upto_region 11 with fail
          refine wp_region_ext_lit (by kernel_rfl) (by kernel_rfl) ?_
          repeat (go_big_quiet_step ((go_at_call 42; exact Calls.ext_of (HCB.out _ (below_trans HBB.out (ext_below _ _))))))
          refine wpQuiet_nil ?_
          intro _ hw'
          obtain ⟨u3, hw''⟩ := hw'
          subst hw''
          have HPS := Lib.hid (show PrS (w.heap.size + 1) W0 (ext wn u3) (.slice (some ⟨gm, 0, none⟩) ML cm) _ (w.heap.size + 1 + 1 + 1) p k n (upT td X Y 1) by rw [upT_one td Y hX0]; exact HPS.out.below hs0 (ext_below wn u3))
          generalize ext wn u3 = wq at *
          clear hX0 d0 d1 d2 x0 x1 x2 x3 x4 hsa hsb hsa3 hsb3 hba hbb1 HCA HCB hki HBL HBB hs2 hl0 hkm hgmw hgm hgw hlw
          have hX21 : X < 2 ^ 21 := Nat.lt_of_lt_of_le hX2 (Nat.pow_le_pow_right (by decide) (by omega))
          have hY21 : Y < 2 ^ 21 := Nat.lt_of_lt_of_le hY2 (Nat.pow_le_pow_right (by decide) (by omega))
          have HX2 := Lib.hid hX2
          have HY2 := Lib.hid hY2
          have HY0 := Lib.hid hY0
          clear hX2 hY2 hY0
          go_wp2_with fail
          go_loopw [4, 5, 11, 12, 13] (fun ll ee ii _ _ wr => ∃ i : Nat, 1 ≤ i ∧ i ≤ N + 1 ∧ ii = .int .i64 (i : Int) ∧ PrS (w.heap.size + 1) W0 wr ll ee (w.heap.size + 1 + 1 + 1) p k n (upT td X Y i)) (fun _ _ ii _ _ _ => N + 1 - (intOf ii).toNat)
          case atStart => exact ⟨1, by omega, by omega, rfl, HPS.out⟩
          case round =>
            clear HPS
            obtain ⟨i, hi1, hiN, rfl, hps⟩ := hrel
            obtain ⟨wi, rfl⟩ : ∃ wi : World, wi = wr := ⟨_, rfl⟩
            have HPS := Lib.hid hps
            have hbp : Blk wi w.heap.size 27 #[.slice A N c, .int .i64 p.first, .int .i64 p.last, .slice B n2 c2, .bool p.nul] := (hps.bel.block w.heap.size (by omega)).trans HBP.out
            have x0 : wi.cell? ⟨w.heap.size, 0, none⟩ = some (.slice A N c) := hbp.cell 0
            have hl0 := hbp.lt
            clear hbp hps
            by_cases hle : i ≤ N
            · have hii : (i : Int) ≤ (N : Int) := by omega
              by_cases hxp : 0 < X
              · have hxx : (0 : Int) < (X : Int) := by omega
                have HUS := Lib.hid (upT_succ td X Y i)
                obtain ⟨bi, hbi⟩ : ∃ bi, bi = X.testBit i := ⟨_, rfl⟩
                rw [← hbi] at HUS
                have HBI := Lib.hid hbi
                clear hbi
                go_wp2_with fail
                go_loopw [4, 5, 12, 13] (fun ll ee jj _ wr => ∃ j : Nat, 1 ≤ j ∧ j ≤ N + 1 ∧ jj = .int .i64 (j : Int) ∧ PrS (w.heap.size + 1) W0 wr ll ee (w.heap.size + 1 + 1 + 1) p k n (upT td X Y i ++ rowC bi td i Y j)) (fun _ _ jj _ _ => N + 1 - (intOf jj).toNat)
                case atStart => exact ⟨1, by omega, by omega, rfl, by rw [rowC_one bi td i HY0.out, List.append_nil]; exact HPS.out⟩
                case round =>
                  clear HPS x0 hl0
                  obtain ⟨j, hj1, hjN, rfl, hps⟩ := hrel
                  obtain ⟨wj, rfl⟩ : ∃ wj : World, wj = wr := ⟨_, rfl⟩
                  have HPS := Lib.hid hps
                  have hbp : Blk wj w.heap.size 27 #[.slice A N c, .int .i64 p.first, .int .i64 p.last, .slice B n2 c2, .bool p.nul] := (hps.bel.block w.heap.size (by omega)).trans HBP.out
                  have x0 : wj.cell? ⟨w.heap.size, 0, none⟩ = some (.slice A N c) := hbp.cell 0
                  have hl0 := hbp.lt
                  clear hbp hps
                  by_cases hlj : j ≤ N
                  · have hjj : (j : Int) ≤ (N : Int) := by omega
                    by_cases hyp : 0 < Y
                    · have hyy : (0 : Int) < (Y : Int) := by omega
                      cases hbb : (bi && Y.testBit j) with
                      | false =>
                        have HNX := Lib.hid (rowC_no (d := td) (i := i) hbb)
                        have hc1 : bi = false ∨ (bi = true ∧ Y.testBit j = false) := by cases bi <;> simp_all
                        clear hbb
                        rcases hc1 with hb | ⟨hb, hb2⟩
                        · have hci : (bits .and .i64 ((X : Int) / 2 ^ i) 1 == 0) = true := by rw [bit_off (by omega) (by omega) (by rw [← HBI.out]; exact hb)]; rfl
                          clear hb
                          go_wp2_with fail
                          go_roundw
                          case rel => exact ⟨j + 1, by omega, by omega, by go_num, by rw [HNX.out]; exact HPS.out⟩
                          case measure => simp [intOf]; omega
                        · have hci : (bits .and .i64 ((X : Int) / 2 ^ i) 1 == 0) = false := by rw [bit_on (by omega) (by omega) (by rw [← HBI.out]; exact hb)]; rfl
                          have hcj : (bits .and .i64 ((Y : Int) / 2 ^ j) 1 == 0) = true := by rw [bit_off (by omega) (by omega) hb2]; rfl
                          clear hb hb2
                          go_wp2_with fail
                          go_roundw
                          case rel => exact ⟨j + 1, by omega, by omega, by go_num, by rw [HNX.out]; exact HPS.out⟩
                          case measure => simp [intOf]; omega
                      | true =>
                        rw [Bool.and_eq_true] at hbb
                        obtain ⟨rfl, hbj⟩ := hbb
                        have hci : (bits .and .i64 ((X : Int) / 2 ^ i) 1 == 0) = false := by rw [bit_on (by omega) (by omega) HBI.out.symm]; rfl
                        have hcj : (bits .and .i64 ((Y : Int) / 2 ^ j) 1 == 0) = false := by rw [bit_on (by omega) (by omega) hbj]; rfl
                        have HNX := Lib.hid (rowC_yes (bi := true) (d := td) (i := i) rfl hbj)
                        have hij : ((i : Int) != (j : Int)) = decide (i ≠ j) := by
                          by_cases h : i = j
                          · subst h; simp
                          · have h2 : ¬ (i : Int) = (j : Int) := by omega
                            rw [decide_eq_true h]
                            simpa using h2
                        have HPRE := Lib.hid (upC_pre td X Y i (j + 1) (by omega) (by omega))
                        rw [← HBI.out, HNX.out] at HPRE
                        have HCL := Lib.hid (show (upT td X Y i ++ rowC true td i Y j).length ≤ 500 by
                          have h1 := upT_len td X Y i
                          have h2 := rowC_len true td i Y (j := j) (by omega)
                          rw [List.length_append]
                          omega)
                        rw [← List.append_assoc] at HPRE
                        obtain ⟨C, hC⟩ : ∃ C, C = upT td X Y i ++ rowC true td i Y j := ⟨_, rfl⟩
                        rw [← hC] at HPRE HPS HCL
                        obtain ⟨D, hD⟩ : ∃ D, D = (td || decide (i ≠ j)) := ⟨_, rfl⟩
                        rw [← hD] at HPRE HNX
                        have HC := Lib.hid (show upT td X Y i ++ rowC true td i Y (j + 1) = C ++ [(i, j, D)] by rw [HNX.out, hC, List.append_assoc])
                        obtain ⟨T, hpr, htab⟩ := HPS.out
                        have hlow := listT_low (n := n) (cur := C) HKL.out (by omega)
                        have HLP := Lib.hid (by obtain ⟨r, hr⟩ := HPRE.out; exact listT_pre (cur := C ++ [(i, j, D)]) (rest := r) HKL.out hk8 hn9 (by rw [HTX.out]; exact hr))
                        have HEL := Lib.hid (edgT_len p (k := k) (n := n) C (by omega) (by omega) (by have := HCL.out; omega))
                        rw [listT_snoc] at HLP
                        obtain ⟨L, hL⟩ : ∃ L, L = listT p k n C := ⟨_, rfl⟩
                        obtain ⟨E, hE⟩ : ∃ E, E = edgT p k n C := ⟨_, rfl⟩
                        rw [← hL] at hlow hpr htab HLP
                        rw [← hE] at hpr HEL
                        have HL := Lib.hid hL
                        have HE := Lib.hid hE
                        have hkL := (List.getElem?_eq_some_iff.1 hlow).1
                        obtain ⟨g2, q2, rfl, hg2, hg2w, -, -⟩ := own_some hpr.ls (by omega)
                        obtain ⟨A6, n6, c6, rfl⟩ := (Own.of_row hpr.es rfl rfl).shape
                        obtain ⟨b1, o1, e1, -, -, -, d2⟩ := ((Own.of_row hpr.ls rfl rfl).sl cNt_len).nt hlow
                        cases e1
                        rw [Nat.zero_add, ← HT.out] at d2
                        simp only at d2
                        have hki : (k : Int) < (L.length : Int) := by omega
                        have HPR := Lib.hid hpr
                        have HTAB := Lib.hid htab
                        clear hbj HPS HNX hlow hpr htab hL hE hC HPRE
                        go_upto_region 19 with fail
                        go_cut [13] (fun zz wx => zz = .pointer (some ⟨wj.heap.size, 0, none⟩) ∧ Blk wx wj.heap.size 67 #[.int .i64 (i : Int), .int .i64 (j : Int), .bool D, .int .i64 0, .int .i64 0] ∧ Below wj.heap.size wj wx)
                        case first =>
                          have hbz := Blk.new wj 67 #[.int .i64 0, .int .i64 0, .bool false, .int .i64 0, .int .i64 0] _ rfl
                          have HBZ := Lib.hid hbz
                          clear hbz
                          cases td with
                          | true =>
                            obtain rfl : D = true := by rw [hD]; rfl
                            clear hD hij
                            go_wp2_with fail
                            go_meet
                            exact ⟨rfl, Blk.new _ _ _ _ rfl, (Below.refl _ _).alloc (Nat.le_refl _) _⟩
                          | false =>
                            rw [Bool.false_or] at hD
                            rw [← hD] at hij
                            clear hD
                            go_wp2_with fail
                            go_meet
                            exact ⟨rfl, Blk.new _ _ _ _ rfl, (Below.refl _ _).alloc (Nat.le_refl _) _⟩
                        case rest =>
                          obtain ⟨rfl, hbz, hbx⟩ := hcut
                          obtain ⟨zb, hzb⟩ : ∃ zb, zb = wj.heap.size := ⟨_, rfl⟩
                          have HPX := Lib.hid (HPR.out.below hs0 hbx)
                          have hsx := hbx.size
                          have hgz : w.heap.size + 1 + 1 + 1 < zb := by rw [hzb]; exact HPR.out.gLt.2
                          have hg2z : g2 < zb := by rw [hzb]; exact hg2w
                          rw [← hzb] at hbz ⊢
                          have hzlt := hbz.lt
                          have HBZ := Lib.hid hbz
                          have z0 : (wc).cell? ⟨zb, 0, none⟩ = some (.int .i64 (i : Int)) := (hbz).cell 0
                          have z1 : (wc).cell? ⟨zb, 1, none⟩ = some (.int .i64 (j : Int)) := (hbz).cell 1
                          have z2 : (wc).cell? ⟨zb, 2, none⟩ = some (.bool D) := (hbz).cell 2
                          have z3 : (wc).cell? ⟨zb, 3, none⟩ = some (.int .i64 0) := (hbz).cell 3
                          have z4 : (wc).cell? ⟨zb, 4, none⟩ = some (.int .i64 0) := (hbz).cell 4
                          obtain ⟨S, hS⟩ : ∃ S, S = slotT (i, j, D) := ⟨_, rfl⟩
                          have hS8 : S < 882 := by rw [hS]; exact slotT_lt (by simp only; omega) (by simp only; omega)
                          have HSL := Lib.hid (fun W => l10Slot_any i j D 0 0 (by omega) (by omega) W)
                          rw [← hS] at HSL
                          have HS := Lib.hid hS
                          have HLW := Lib.hid (show ∀ t ∈ L, t.2.1 ≤ 20 from fun t ht => by
                            have h1 := (HLP.out.subset (foldT_pre [(i, j, D)] L |>.subset ht))
                            have h2 := HLP.out
                            exact (allT_low (p := p) (i := 882) (by rw [← HN.out]; exact h20) (by rw [endT] at h1; exact h1)).2)
                          have HZM := Lib.hid (show (i, j, D) ∈ addT L (i, j, D) from addT_mem.2 (.inr rfl))
                          clear hbz hbx hS d2 hD hij hzb
                          go_wp2_with fail
                          refine (HSL.out _).mono ?_
                          rintro e w5 ⟨rfl, hb5⟩
                          have HPX := Lib.hid (HPX.out.below hs0 hb5)
                          have hc5 := HPX.out.cellT HTAB.out.len hS8
                          have hg5 := HPX.out.gLt.2
                          have hbz := HBZ.out.keep hb5
                          have HBZ := Lib.hid hbz
                          have hzlt := hbz.lt
                          have z0 : (w5).cell? ⟨zb, 0, none⟩ = some (.int .i64 (i : Int)) := (hbz).cell 0
                          have z1 : (w5).cell? ⟨zb, 1, none⟩ = some (.int .i64 (j : Int)) := (hbz).cell 1
                          have z2 : (w5).cell? ⟨zb, 2, none⟩ = some (.bool D) := (hbz).cell 2
                          have z3 : (w5).cell? ⟨zb, 3, none⟩ = some (.int .i64 0) := (hbz).cell 3
                          have z4 : (w5).cell? ⟨zb, 4, none⟩ = some (.int .i64 0) := (hbz).cell 4
                          obtain ⟨hc5, hf5⟩ := hc5
                          have hSi : (S : Int) < 882 := by omega
                          clear hbz hb5 hsx
                          by_cases hmem : (i, j, D) ∈ L
                          · have HT5 := Lib.hid (HTAB.out.hit (by have h := HLP.out; rw [addT_has hmem] at h; exact h) hmem)
                            have hpos := idx_pos (HLP.out.subset HZM.out) hi1
                            rw [← HS.out] at HT5
                            rw [HT5.out] at hc5
                            have HAD := Lib.hid (addT_has hmem)
                            obtain ⟨I, hI⟩ : ∃ I, I = idxT p (i, j, D) := ⟨_, rfl⟩
                            rw [← hI] at hpos hc5 HT5
                            have HI := Lib.hid hI
                            have hne : ((I : Int) == 0) = false := by simpa using (show ¬ I = 0 by omega)
                            have hel := HEL.out
                            clear hI hmem
                            go_wp2_with fail
                            refine (HSL.out _).mono ?_
                            rintro e w6 ⟨rfl, hb6⟩
                            have HPY := Lib.hid (HPX.out.below hs0 hb6)
                            obtain ⟨hc6, hf6⟩ := HPY.out.cellT HTAB.out.len hS8
                            rw [HT5.out] at hc6
                            have hg6 := HPY.out.gLt.2
                            have hs6 := hb6.size
                            have hsW := HPY.out.bel.size
                            clear hc5 hf5 hg5 hb6
                            have qb1 : (E.length + 1) * 24 ≤ 140737488355328 := by omega
                            have qb2 : w.heap.size + 1 ≤ w6.heap.size := by omega
                            go_wp2_with (at_builtin; (refine wpList_append1 cEg elEg rfl _ _ rfl (w.heap.size + 1) _ E (k, n, I) _ 1 _ (by rfl) HPY.out.es (by rfl) rfl rfl rfl (cEg_one _) qb1 (by decide) qb2 ?_); intro v7 w7 hrow7 hb7 hat7 hgr7)
                            go_roundw
                            case rel => exact ⟨j + 1, by omega, by omega, by go_num, by rw [HC.out]; exact ⟨T, by rw [listT_snoc, edgT_snoc, ← HL.out, ← HE.out, HAD.out, ← HI.out]; exact HPY.out.edge hs0 hrow7 hgr7 hat7, by rw [listT_snoc, ← HL.out, HAD.out]; exact HTAB.out⟩⟩
                            case measure => simp [intOf]; omega
                          · have HT5 := Lib.hid (HTAB.out.miss hmem (by simp only; omega) HLW.out)
                            rw [← HS.out] at HT5
                            rw [HT5.out] at hc5
                            have HAD := Lib.hid (addT_new hmem)
                            have hel := HEL.out
                            have hLl : L.length ≤ 882 := by
                              have h1 := List.IsPrefix.length_le HLP.out
                              rw [HAD.out, List.length_append] at h1
                              have h2 := allT_len (p := p) (by rw [← HN.out]; exact h20) 882
                              rw [endT] at h1
                              omega
                            have HTA := Lib.hid (HTAB.out.add hmem (by simp only; omega) (by simp only; omega) HLW.out)
                            rw [← HS.out] at HTA
                            have HT9 := Lib.hid (HTA.out.hit (z := (i, j, D)) (by have h := HLP.out; rw [HAD.out] at h; exact h) (List.mem_append_right _ (List.mem_singleton.2 rfl)))
                            rw [← HS.out] at HT9
                            clear hmem
                            go_wp2_with fail
                            refine (HSL.out _).mono ?_
                            rintro e w6 ⟨rfl, hb6⟩
                            have HPY := Lib.hid (HPX.out.below hs0 hb6)
                            obtain ⟨hc6, hf6⟩ := HPY.out.cellT HTAB.out.len hS8
                            have hg6 := HPY.out.gLt.2
                            have HBZ := Lib.hid (HBZ.out.keep hb6)
                            have hzlt := HBZ.out.lt
                            have hs6 := hb6.size
                            clear hc5 hf5 hg5 hb6 z0 z1 z2 z3 z4
                            go_upto_region 22 with fail
                            have HPZ := Lib.hid (HPY.out.put S (L.length : Int))
                            have hbz7 := HBZ.out.far (p := ⟨w.heap.size + 1 + 1 + 1, S, none⟩) (by simp only; omega) (.int .i64 (L.length : Int))
                            have hs7 : (w6.setCell ⟨w.heap.size + 1 + 1 + 1, S, none⟩ (.int .i64 (L.length : Int))).heap.size = w6.heap.size := by simp [World.setCell]
                            generalize w6.setCell ⟨w.heap.size + 1 + 1 + 1, S, none⟩ (.int .i64 (L.length : Int)) = w7 at *
                            have HBZ7 := Lib.hid hbz7
                            have z0 : (w7).cell? ⟨zb, 0, none⟩ = some (.int .i64 (i : Int)) := (hbz7).cell 0
                            have z1 : (w7).cell? ⟨zb, 1, none⟩ = some (.int .i64 (j : Int)) := (hbz7).cell 1
                            have z2 : (w7).cell? ⟨zb, 2, none⟩ = some (.bool D) := (hbz7).cell 2
                            have z3 : (w7).cell? ⟨zb, 3, none⟩ = some (.int .i64 0) := (hbz7).cell 3
                            have z4 : (w7).cell? ⟨zb, 4, none⟩ = some (.int .i64 0) := (hbz7).cell 4
                            have hzlt7 := hbz7.lt
                            have hsW := HPZ.out.bel.size
                            have qb1 : (L.length + 1) * 40 ≤ 140737488355328 := by omega
                            have qb2 : w.heap.size + 1 ≤ w7.heap.size := by omega
                            have qb3 : (E.length + 1) * 24 ≤ 140737488355328 := by omega
                            have qb4 : ∀ x y : Nat, g2 = x → x = zb → False := fun x y h1 h2 => by omega
                            clear hbz7 hc6 hf6 hg6 hs7 hs6 hel hLl
                            go_wp2_with (at_builtin; (refine wpList_append1 cNt elNt rfl _ _ rfl (w.heap.size + 1) _ L (i, j, D) _ 1 _ (by rfl) HPZ.out.ls (by rfl) rfl rfl rfl (cNt_one _) qb1 (by decide) qb2 ?_); intro v8 w8 hrow8 hb8 hat8 hgr8; have HP8 := Lib.hid (HPZ.out.node hs0 hrow8 hgr8 hat8); have hbz8 : Blk w8 zb 67 #[.int .i64 (i : Int), .int .i64 (j : Int), .bool D, .int .i64 0, .int .i64 0] := (hgr8.block zb (by simp; omega) (fun e => by simp only [Value.ownBlock, Option.map_some, Option.some.injEq] at e; exact qb4 _ 0 rfl e.symm)).trans (HBZ7.out.alloc _); have z0 := hbz8.cell 0; have z1 := hbz8.cell 1; have z2 := hbz8.cell 2; have z3 := hbz8.cell 3; have z4 := hbz8.cell 4; have hzlt8 := hbz8.lt; clear hbz8)
                            refine (HSL.out _).mono ?_
                            rintro e w9 ⟨rfl, hb9⟩
                            have HPY := Lib.hid (HP8.out.below hs0 hb9)
                            obtain ⟨hc6, hf6⟩ := HPY.out.cellT HTA.out.len hS8
                            obtain ⟨I, hI⟩ : ∃ I, I = idxT p (i, j, D) := ⟨_, rfl⟩
                            rw [← hI] at HT9
                            rw [HT9.out] at hc6
                            have HI := Lib.hid hI
                            have hg6 := HPY.out.gLt.2
                            have hsW := HPY.out.bel.size
                            have qb2 : w.heap.size + 1 ≤ w9.heap.size := Nat.le_trans hs0 hsW
                            clear hI hb9 hsW z0 z1 z2 z3 z4
                            go_wp2_with (at_builtin; (refine wpList_append1 cEg elEg rfl _ _ rfl (w.heap.size + 1) _ E (k, n, I) _ 1 _ (by rfl) HPY.out.es (by rfl) rfl rfl rfl (cEg_one _) qb3 (by decide) qb2 ?_); intro v7 w10 hrow7 hb7 hat7 hgr7)
                            go_roundw
                            case rel => exact ⟨j + 1, by omega, by omega, by go_num, by rw [HC.out]; exact ⟨T.set S (L.length : Int), by rw [listT_snoc, edgT_snoc, ← HL.out, ← HE.out, HAD.out, ← HI.out]; exact HPY.out.edge hs0 hrow7 hgr7 hat7, by rw [listT_snoc, ← HL.out, HAD.out]; exact HTA.out⟩⟩
                            case measure => simp [intOf]; omega
                    · have hyy : ¬ (0 : Int) < (Y : Int) := by omega
                      have HEND := Lib.hid (rowC_end (bi := bi) (d := td) (i := i) (show Y < 2 ^ j by have := Nat.two_pow_pos j; omega) (by omega))
                      clear hyp
                      go_wp2_with fail
                      go_roundw
                      case rel => exact ⟨i + 1, by omega, by omega, by go_num, by rw [HUS.out, HEND.out]; exact HPS.out⟩
                      case measure => simp [intOf]; omega
                  · have hjj : ¬ (j : Int) ≤ (N : Int) := by omega
                    have HEND := Lib.hid (rowC_end (bi := bi) (d := td) (i := i) (show Y < 2 ^ j by rw [show j = N + 1 by omega]; exact HY2.out) (by omega))
                    go_wp2_with fail
                    go_roundw
                    case rel => exact ⟨i + 1, by omega, by omega, by go_num, by rw [HUS.out, HEND.out]; exact HPS.out⟩
                    case measure => simp [intOf]; omega
              · have hxx : ¬ (0 : Int) < (X : Int) := by omega
                have HEND := Lib.hid (upT_end td (X := X) (i := i) Y (by have := Nat.two_pow_pos i; omega) (by omega))
                clear hxp
                go_wp2_with fail
                go_roundw
                case rel => exact ⟨n + 1, by omega, by go_num, PrS.letter (by rw [HTX.out, HEND.out]; exact HPS.out)⟩
                case measure => simp [intOf]; omega
            · have hii : ¬ (i : Int) ≤ (N : Int) := by omega
              have HEND := Lib.hid (upT_end td (X := X) (i := i) Y (by rw [show i = N + 1 by omega]; exact HX2.out) (by omega))
              go_wp2_with fail
              go_roundw
              case rel => exact ⟨n + 1, by omega, by go_num, PrS.letter (by rw [HTX.out, HEND.out]; exact HPS.out)⟩
              case measure => simp [intOf]; omega
        · obtain rfl : n = 9 := by omega
          go_wp2_with fail
          go_roundw
          case rel => exact ⟨k + 1, Nat.le_trans HKL.out (List.IsPrefix.length_le (allT_pre p k)), by go_num, HPS.out.pair HKL.out (by omega)⟩
          case measure => simp [intOf]; omega
    · obtain rfl : k = M := by omega
      have HE1 := Lib.hid (endT_eq (p := p) (i := k) (Nat.le_of_eq HM.out.symm) h882)
      have HE2 := Lib.hid (show edsT p = edgT p k 0 [] by rw [edsT, HE1.out, ← HM.out, edgT]; simp)
      go_wp2_with fail
      go_ret2
      obtain ⟨T, hpr, -⟩ := HPS.out
      rw [HE1.out, HE2.out]
      have hl := hpr.ls
      have he := hpr.es
      exact ⟨_, _, rfl, (Own.of_row hpr.ls rfl rfl).mono (by omega) (Nat.le_refl _), (Own.of_row hpr.es rfl rfl).mono (by omega) (Nat.le_refl _), HB0.out.trans (hpr.bel.mono (by omega))⟩
end Go.Proofs.Ythnapjodmndlaaa

/- The reference's l10Far gives the distances of the pairs. -/
namespace Go.Proofs.Ythnapjodmndlaaa
set_option linter.unusedVariables false
set_option linter.unusedSimpArgs false
open Go.ChangeShapes Go.WideShapes Go.ChangeAt Go.RowKit
attribute [local go_sem] ext_cell ext_frozen ext_lt ext_lt1 ext_lt2 ext_lt3 ltn2 ltn3 ltn13 lts1 lts2 lts3

set_option maxRecDepth 100000 in
set_option maxHeartbeats 8000000 in
theorem specFar (v vl ve : Value) (p : Pz) (w : World) (hv : PzV 0 w.heap.size w v p) (hok : pzOk p = true) (hl : SlE w cNt 5 vl (endT p)) (he : SlE w cEg 3 ve (edsT p)) :
    Calls Try.prog 28 #[v, vl, ve] w fun e w' => ∃ vf F, e = .returned vf ∧ Own w.heap.size w'.heap.size w' 3 cI 1 vf F ∧ FarI (prsT p) (goalT p) (endT p).length F ∧ (∀ i, i < (endT p).length → F.getD i 0 = dT p i) ∧ Below w.heap.size w w' := by
  have HV := Lib.hid hv
  have HOK := Lib.hid hok
  have h20 := (pz_facts hok).1
  have H20 := Lib.hid h20
  have HL := Lib.hid hl
  have HE := Lib.hid he
  obtain ⟨vq, vf, rfl, h1, h2⟩ := hv
  obtain ⟨A, n1, c, rfl⟩ := h1.shape
  obtain ⟨B, n2, c2, rfl⟩ := h2.shape
  obtain ⟨A3, c3, rfl, hl3, hm3, -⟩ := hl
  obtain ⟨A4, c4, rfl, hl4, hm4, -⟩ := he
  unfold maxLen at hm3 hm4
  have hN882 : (endT p).length ≤ 882 := by rw [endT]; exact allT_len h20 882
  have hNpos : 0 < (endT p).length := (List.getElem?_eq_some_iff.1 (endT_start p)).1
  have HFO := Lib.hid (farZ_ok p)
  obtain ⟨N, hN⟩ : ∃ N, N = (endT p).length := ⟨_, rfl⟩
  obtain ⟨EL, hEL⟩ : ∃ EL, EL = (edsT p).length := ⟨_, rfl⟩
  rw [← hN] at hl3 hN882 hNpos HL HFO ⊢
  rw [← hEL] at hl4 HE ⊢
  have HN := Lib.hid hN
  have HEL := Lib.hid hEL
  have HAC := Lib.hid (fun (s : Nat) (W : World) (h : Below w.heap.size w W) (hs : s < 2 ^ 21) => specAccepts _ p s W (HV.out.keep h) HOK.out hs)
  have HAB := Lib.hid (fun (s : Nat) (W : World) (b : Bool) (h : Below w.heap.size w W) (hs : s < 2 ^ 21) (hb : b = accP p s) => show Calls Try.prog 44 #[.agg #[.slice A n1 c, .int .i64 p.first, .int .i64 p.last, .slice B n2 c2, .bool p.nul], .int .i64 (s : Int)] W fun e w' => e = .returned (.bool b) ∧ Below W.heap.size W w' by rw [hb]; exact HAC.out s W h hs)
  obtain ⟨W0, hW0⟩ : ∃ W0, W0 = w.alloc (.cells #[.slice A n1 c, .int .i64 p.first, .int .i64 p.last, .slice B n2 c2, .bool p.nul] 27) := ⟨_, rfl⟩
  have hbp : Blk W0 w.heap.size 27 #[.slice A n1 c, .int .i64 p.first, .int .i64 p.last, .slice B n2 c2, .bool p.nul] := by rw [hW0]; exact Blk.new _ _ _ _ rfl
  have hb0 : Below w.heap.size w W0 := by rw [hW0]; exact (Below.refl _ _).alloc (Nat.le_refl _) _
  have hsz : W0.heap.size = w.heap.size + 1 := by rw [hW0]; simp
  have HBP := Lib.hid hbp
  have HB0 := Lib.hid hb0
  clear h1 h2 hok hN hEL hbp hb0 h20
  go_enter Try.func28, Try.ntmps28
  go_upto_region 1 with fail
  rw [← hW0]
  clear hW0
  have hs0 : w.heap.size + 1 ≤ W0.heap.size := by omega
  have hst : (W0.alloc (.cells #[] 3)).ownsRow (w.heap.size + 1) 3 1 (.slice (some ⟨w.heap.size + 1, 0, none⟩) 0 0) (farZ p 0).length ((farZ p 0).flatMap cI) := by
    have h := World.ownsRow_lit (base := w.heap.size + 1) (e := 3) (size := 1) W0 #[] 0 hs0 (by decide) rfl
    rw [hsz] at h
    exact h
  have HST := Lib.hid hst
  clear hst
  go_wp2_with fail
  go_loopw [7, 8, 9] (fun ff kk _ wr => ∃ k : Nat, k ≤ N ∧ kk = .int .i64 (k : Int) ∧ wr.ownsRow (w.heap.size + 1) 3 1 ff (farZ p k).length ((farZ p k).flatMap cI) ∧ Below (w.heap.size + 1) W0 wr) (fun _ kk _ _ => N - (intOf kk).toNat)
  case atStart => exact ⟨0, Nat.zero_le _, rfl, HST.out, (Below.refl _ _).alloc hs0 _⟩
  case round =>
    clear HST
    obtain ⟨k, hk, rfl, hrow, hbel⟩ := hrel
    obtain ⟨wk, rfl⟩ : ∃ wk : World, wk = wr := ⟨_, rfl⟩
    have HROW := Lib.hid hrow
    have HBEL := Lib.hid hbel
    by_cases hlt : k < N
    · have hki : (k : Int) < (N : Int) := by omega
      have hat : (endT p)[k]? = some (twnA p k) := by rw [twnA, List.getD_eq_getElem?_getD, List.getElem?_eq_getElem (by rw [← HN.out]; exact hlt)]; rfl
      have HZS := Lib.hid (farZ_succ hat)
      have HZL := Lib.hid (farZ_len p (k := k) (by rw [← HN.out]; exact hk))
      have hlow : (twnA p k).1 ≤ 20 ∧ (twnA p k).2.1 ≤ 20 := by
        have h1 := List.mem_of_getElem? hat
        rw [endT] at h1
        exact allT_low (i := 882) H20.out h1
      obtain ⟨b1, o1, rfl, hb1, d0, d1, d2⟩ := HL.out.nt hat
      have hbw := HB0.out.trans (hbel.mono (show w.heap.size ≤ w.heap.size + 1 by omega))
      have d0 := kcell hbw d0
      have d1 := kcell hbw d1
      have d2 := kcell hbw d2
      obtain ⟨⟨ta, tb, td⟩, ht⟩ : ∃ t, t = twnA p k := ⟨_, rfl⟩
      rw [← ht] at d0 d1 d2 hlow HZS
      simp only at d0 d1 d2
      have hbp : Blk wk w.heap.size 27 #[.slice A n1 c, .int .i64 p.first, .int .i64 p.last, .slice B n2 c2, .bool p.nul] := (hbel.block w.heap.size (by omega)).trans HBP.out
      have x0 : wk.cell? ⟨w.heap.size, 0, none⟩ = some (.slice A n1 c) := by exact hbp.cell 0
      have x1 : wk.cell? ⟨w.heap.size, 1, none⟩ = some (.int .i64 p.first) := by exact hbp.cell 1
      have x2 : wk.cell? ⟨w.heap.size, 2, none⟩ = some (.int .i64 p.last) := by exact hbp.cell 2
      have x3 : wk.cell? ⟨w.heap.size, 3, none⟩ = some (.slice B n2 c2) := by exact hbp.cell 3
      have x4 : wk.cell? ⟨w.heap.size, 4, none⟩ = some (.bool p.nul) := by exact hbp.cell 4
      have hl0 := hbp.lt
      have hl1 : b1 < wk.heap.size := by omega
      have hba : bit ta < 2 ^ 21 := Nat.pow_lt_pow_right (by decide) (by have := hlow.1; simp only at this; omega)
      have hbb : bit tb < 2 ^ 21 := Nat.pow_lt_pow_right (by decide) (by have := hlow.2; simp only at this; omega)
      have hsa := shl_bit2 (s := ta) (by have := hlow.1; simp only at this; omega)
      have hsb := shl_bit2 (s := tb) (by have := hlow.2; simp only at this; omega)
      have hsa3 := shl_bit3 (s := ta) (by have := hlow.1; simp only at this; omega)
      have hsb3 := shl_bit3 (s := tb) (by have := hlow.2; simp only at this; omega)
      have HBW := Lib.hid hbw
      have hsB := hbel.size
      obtain ⟨qa, hqa⟩ : ∃ q, q = accP p (bit ta) := ⟨_, rfl⟩
      obtain ⟨qb, hqb⟩ : ∃ q, q = accP p (bit tb) := ⟨_, rfl⟩
      have HG := Lib.hid (show twnG p (ta, tb, td) = (td && (qa && qb)) by rw [hqa, hqb]; rfl)
      obtain ⟨D, hD⟩ : ∃ D, D = farZ p k := ⟨_, rfl⟩
      rw [← hD] at HROW HZL HZS
      have HQA := Lib.hid hqa
      have HQB := Lib.hid hqb
      clear hrow hbel hat ht hbw hbp hlow hD hqa hqb
      have qb1 : (D.length + 1) * 8 ≤ 140737488355328 := by have := HZL.out; omega
      cases td with
      | false =>
        go_upto_region 6 with fail
        refine wp_region_ext_lit (by kernel_rfl) (by kernel_rfl) ?_
        repeat (go_big_quiet_step ((fail)))
        refine wpQuiet_nil ?_
        intro _ hw'
        obtain ⟨u2, hw''⟩ := hw'
        subst hw''
        have HROW2 := Lib.hid (ownsRow_below HROW.out (ext_below wk u2) (Nat.le_refl _))
        have HBEL2 := Lib.hid (HBEL.out.trans ((ext_below wk u2).mono (show w.heap.size + 1 ≤ wk.heap.size by omega)))
        have HZ2 := Lib.hid (show farZ p (k + 1) = D ++ [-1] by rw [HZS.out, HG.out]; rfl)
        have qb2 : w.heap.size + 1 ≤ (ext wk u2).heap.size := Nat.le_trans hs0 HBEL2.out.size
        generalize ext wk u2 = w2 at *
        clear d0 d1 d2 x0 x1 x2 x3 x4 hsa hsb hsa3 hsb3
        go_wp2_with (at_builtin; (refine wpList_append1 cI elInt rfl _ _ rfl (w.heap.size + 1) _ D (-1) _ 1 _ (by rfl) HROW2.out (by rfl) rfl rfl rfl (cI_one _) qb1 (by decide) qb2 ?_); intro v8 w8 hrow8 hb8 _ _)
        go_roundw
        case rel => exact ⟨k + 1, by omega, by go_num, by rw [HZ2.out]; exact hrow8, HBEL2.out.trans hb8⟩
        case measure => simp [intOf]; omega
      | true =>
        cases qa with
        | false =>
          go_upto_region 6 with fail
          refine wp_region_ext_lit (by kernel_rfl) (by kernel_rfl) ?_
          repeat (go_big_quiet_step ((go_at_call 44; exact Calls.ext_of (HAB.out _ _ _ (below_trans HBW.out (ext_below _ _)) (by first | exact hba | exact hbb) (by first | exact HQA.out | exact HQB.out)))))
          refine wpQuiet_nil ?_
          intro _ hw'
          obtain ⟨u2, hw''⟩ := hw'
          subst hw''
          have HROW2 := Lib.hid (ownsRow_below HROW.out (ext_below wk u2) (Nat.le_refl _))
          have HBEL2 := Lib.hid (HBEL.out.trans ((ext_below wk u2).mono (show w.heap.size + 1 ≤ wk.heap.size by omega)))
          have HZ2 := Lib.hid (show farZ p (k + 1) = D ++ [-1] by rw [HZS.out, HG.out]; rfl)
          have qb2 : w.heap.size + 1 ≤ (ext wk u2).heap.size := Nat.le_trans hs0 HBEL2.out.size
          generalize ext wk u2 = w2 at *
          clear d0 d1 d2 x0 x1 x2 x3 x4 hsa hsb hsa3 hsb3
          go_wp2_with (at_builtin; (refine wpList_append1 cI elInt rfl _ _ rfl (w.heap.size + 1) _ D (-1) _ 1 _ (by rfl) HROW2.out (by rfl) rfl rfl rfl (cI_one _) qb1 (by decide) qb2 ?_); intro v8 w8 hrow8 hb8 _ _)
          go_roundw
          case rel => exact ⟨k + 1, by omega, by go_num, by rw [HZ2.out]; exact hrow8, HBEL2.out.trans hb8⟩
          case measure => simp [intOf]; omega
        | true =>
          cases qb with
          | false =>
            go_upto_region 6 with fail
            refine wp_region_ext_lit (by kernel_rfl) (by kernel_rfl) ?_
            repeat (go_big_quiet_step ((go_at_call 44; exact Calls.ext_of (HAB.out _ _ _ (below_trans HBW.out (ext_below _ _)) (by first | exact hba | exact hbb) (by first | exact HQA.out | exact HQB.out)))))
            refine wpQuiet_nil ?_
            intro _ hw'
            obtain ⟨u2, hw''⟩ := hw'
            subst hw''
            have HROW2 := Lib.hid (ownsRow_below HROW.out (ext_below wk u2) (Nat.le_refl _))
            have HBEL2 := Lib.hid (HBEL.out.trans ((ext_below wk u2).mono (show w.heap.size + 1 ≤ wk.heap.size by omega)))
            have HZ2 := Lib.hid (show farZ p (k + 1) = D ++ [-1] by rw [HZS.out, HG.out]; rfl)
            have qb2 : w.heap.size + 1 ≤ (ext wk u2).heap.size := Nat.le_trans hs0 HBEL2.out.size
            generalize ext wk u2 = w2 at *
            clear d0 d1 d2 x0 x1 x2 x3 x4 hsa hsb hsa3 hsb3
            go_wp2_with (at_builtin; (refine wpList_append1 cI elInt rfl _ _ rfl (w.heap.size + 1) _ D (-1) _ 1 _ (by rfl) HROW2.out (by rfl) rfl rfl rfl (cI_one _) qb1 (by decide) qb2 ?_); intro v8 w8 hrow8 hb8 _ _)
            go_roundw
            case rel => exact ⟨k + 1, by omega, by go_num, by rw [HZ2.out]; exact hrow8, HBEL2.out.trans hb8⟩
            case measure => simp [intOf]; omega
          | true =>
            go_upto_region 6 with fail
            refine wp_region_ext_lit (by kernel_rfl) (by kernel_rfl) ?_
            repeat (go_big_quiet_step ((go_at_call 44; exact Calls.ext_of (HAB.out _ _ _ (below_trans HBW.out (ext_below _ _)) (by first | exact hba | exact hbb) (by first | exact HQA.out | exact HQB.out)))))
            refine wpQuiet_nil ?_
            intro _ hw'
            obtain ⟨u2, hw''⟩ := hw'
            subst hw''
            have HROW2 := Lib.hid (ownsRow_below HROW.out (ext_below wk u2) (Nat.le_refl _))
            have HBEL2 := Lib.hid (HBEL.out.trans ((ext_below wk u2).mono (show w.heap.size + 1 ≤ wk.heap.size by omega)))
            have HZ2 := Lib.hid (show farZ p (k + 1) = D ++ [0] by rw [HZS.out, HG.out]; rfl)
            have qb2 : w.heap.size + 1 ≤ (ext wk u2).heap.size := Nat.le_trans hs0 HBEL2.out.size
            generalize ext wk u2 = w2 at *
            clear d0 d1 d2 x0 x1 x2 x3 x4 hsa hsb hsa3 hsb3
            go_wp2_with (at_builtin; (refine wpList_append1 cI elInt rfl _ _ rfl (w.heap.size + 1) _ D (0) _ 1 _ (by rfl) HROW2.out (by rfl) rfl rfl rfl (cI_one _) qb1 (by decide) qb2 ?_); intro v8 w8 hrow8 hb8 _ _)
            go_roundw
            case rel => exact ⟨k + 1, by omega, by go_num, by rw [HZ2.out]; exact hrow8, HBEL2.out.trans hb8⟩
            case measure => simp [intOf]; omega
    · obtain rfl : k = N := by omega
      have hFl := farZ_len p (k := k) (by rw [← HN.out]; exact Nat.le_refl _)
      obtain ⟨F0, hF0⟩ : ∃ F0, F0 = farZ p k := ⟨_, rfl⟩
      rw [← hF0] at HFO
      rw [← hF0] at hrow hFl
      rw [hFl] at hrow
      obtain ⟨gf, cf, rfl, hgf, hgfw, -, -⟩ := own_some hrow (by omega)
      have HROW := Lib.hid hrow
      have HPL := Lib.hid (prsT_lt (p := p) H20.out)
      rw [← HN.out] at HPL
      clear hrow hbel hF0 hFl hlt hk
      go_wp2_with fail
      go_loopg [10, 11, 12] (farW k F0 + 1) (fun gk aa _ _ wr => ∃ (b : Bool) (F : List Int), aa = .bool b ∧ FarI (prsT p) (goalT p) k F ∧ (b = false → ∀ e ∈ prsT p, rlxB F e = false) ∧ (b = true → farW k F < gk) ∧ wr.ownsRow (w.heap.size + 1) 3 1 (.slice (some ⟨gf, 0, none⟩) k cf) k (F.flatMap cI) ∧ Below (w.heap.size + 1) W0 wr)
      case atStart => exact ⟨true, F0, rfl, HFO.out, (fun h => by cases h), (fun _ => Nat.lt_succ_self _), HROW.out, HBEL.out⟩
      case round =>
        clear HROW HBEL HFO
        obtain ⟨b, F, rfl, hfi, hz, hw, hrow, hbel⟩ := hrel
        obtain ⟨wa, rfl⟩ : ∃ wa : World, wa = wr := ⟨_, rfl⟩
        have HFI := Lib.hid hfi
        have HROW := Lib.hid hrow
        have HBEL := Lib.hid hbel
        have HZ := Lib.hid hz
        have HW := Lib.hid hw
        clear hfi hz hw hrow hbel
        cases b with
        | false =>
          have HFE := Lib.hid (far_end H20.out (by rw [← HN.out]; exact HFI.out) (HZ.out rfl))
          rw [← HN.out] at HFE
          go_wp2_with fail
          go_ret
          exact ⟨_, rfl, F, (Own.of_row HROW.out HFI.out.len rfl).mono (by omega) (Nat.le_refl _), HFI.out, HFE.out, HB0.out.trans (HBEL.out.mono (by omega))⟩
        | true =>
          have HPA := Lib.hid (fun i => foldP_all HPL.out ((prsT p).take i) F false (fun e he => List.mem_of_mem_take he) HFI.out)
          go_wp2_with fail
          go_loopw [10, 11, 12] (fun aa ii _ wr => ∃ i : Nat, i ≤ EL ∧ ii = .int .i64 (i : Int) ∧ aa = .bool (passT (prsT p) F i).2 ∧ wr.ownsRow (w.heap.size + 1) 3 1 (.slice (some ⟨gf, 0, none⟩) k cf) k ((passT (prsT p) F i).1.flatMap cI) ∧ Below (w.heap.size + 1) W0 wr) (fun _ ii _ _ => EL - (intOf ii).toNat)
          case atStart => exact ⟨0, Nat.zero_le _, rfl, rfl, HROW.out, HBEL.out⟩
          case round =>
            clear HROW HBEL
            obtain ⟨i, hi, rfl, rfl, hrow, hbel⟩ := hrel
            by_cases hlt : i < EL
            · have hat : (edsT p)[i]? = some ((edsT p)[i]'(by rw [← HEL.out]; exact hlt)) := List.getElem?_eq_getElem _
              obtain ⟨e, he⟩ : ∃ e, e = (edsT p)[i]'(by rw [← HEL.out]; exact hlt) := ⟨_, rfl⟩
              rw [← he] at hat
              have hpat := prsT_at hat
              have HPS := Lib.hid (passT_succ hpat F)
              have hpl := HPL.out _ (List.mem_of_getElem? hpat)
              obtain ⟨b1, o1, rfl, hb1, d0, -, d2⟩ := HE.out.eg hat
              have hbw := HB0.out.trans (hbel.mono (show w.heap.size ≤ w.heap.size + 1 by omega))
              have d0 := kcell hbw d0
              have d2 := kcell hbw d2
              have hbs := hbw.size
              obtain ⟨⟨ea, eb, ec⟩, he2⟩ : ∃ e', e' = e := ⟨_, rfl⟩
              subst he2
              simp only at d0 d2 hpl HPS
              have hfa := (HPA.out i).1
              have hfd : passT (prsT p) F i = ((prsT p).take i).foldl rlxP (F, false) := rfl
              rw [← hfd] at hfa
              obtain ⟨⟨G, bg⟩, hG⟩ : ∃ g, g = passT (prsT p) F i := ⟨_, rfl⟩
              rw [← hG] at hrow hfa HPS ⊢
              simp only at hrow hfa
              have hx := (World.ownsRow.cellAt hrow ec (by have := hpl.2; omega)).trans (flatI_at (getD_of (D := G) (k := ec) (by rw [hfa.len]; exact hpl.2)))
              have hy := (World.ownsRow.cellAt hrow ea (by have := hpl.1; omega)).trans (flatI_at (getD_of (D := G) (k := ea) (by rw [hfa.len]; exact hpl.1)))
              have hfz := World.ownsRow.frozenAt hrow ea
              have hlx := hfa.low ec hpl.2
              have hhx := hfa.lt hpl.2
              have HRL := Lib.hid (show rlxB G (ea, ec) = (decide (0 < G.getD ec 0 + 1) && (decide (G.getD ea 0 < 0) || decide (G.getD ec 0 + 1 < G.getD ea 0))) from rfl)
              have HRX := Lib.hid (show rlx G (ea, ec) = if rlxB G (ea, ec) = true then G.set ea (G.getD ec 0 + 1) else G from rfl)
              obtain ⟨x, hxx⟩ : ∃ x, x = G.getD ec 0 := ⟨_, rfl⟩
              obtain ⟨y, hyy⟩ : ∃ y, y = G.getD ea 0 := ⟨_, rfl⟩
              rw [← hxx] at hx hlx hhx HRL HRX
              rw [← hyy] at hy HRL
              obtain ⟨n, hn⟩ : ∃ n, n = x + 1 := ⟨_, rfl⟩
              have hwr : IntKind.i64.wrap (x + 1) = n := by rw [IntWalk.i64_in _ (by omega)]; exact hn.symm
              rw [← hn] at HRL HRX
              have hgw := (hrow.lt gf rfl).2
              have hii : (i : Int) < (EL : Int) := by omega
              have hti : (ec : Int) < (k : Int) := by have := hpl.2; omega
              have htj : (ea : Int) < (k : Int) := by have := hpl.1; omega
              have hb1w : b1 < wr.heap.size := by omega
              have HROW := Lib.hid hrow
              have HBEL := Lib.hid hbel
              have HNN := Lib.hid hn
              clear hrow hbel hat hpat he hfa hfd hG hxx hyy hn hpl hbw hlx hhx hbs
              by_cases h1 : 0 < n
              · by_cases h2 : y < 0
                · have hr : rlxB G (ea, ec) = true := by rw [HRL.out, decide_eq_true h1, decide_eq_true h2]; rfl
                  have HF := Lib.hid (show passT (prsT p) F (i + 1) = (G.set ea n, true) by rw [HPS.out, rlxP, HRX.out, hr]; simp)
                  have hst := (World.ownsRow.stored HROW.out ea (.int .i64 n)).1
                  rw [flatI_set] at hst
                  have HST := Lib.hid hst
                  clear hr hst
                  go_wp2_with fail
                  go_roundw
                  case rel => exact ⟨i + 1, by omega, by go_num, by rw [HF.out], by rw [HF.out]; exact HST.out, HBEL.out.setCell (p := ⟨gf, ea, none⟩) hgf _⟩
                  case measure => simp [intOf]; omega
                · by_cases h3 : n < y
                  · have hr : rlxB G (ea, ec) = true := by rw [HRL.out, decide_eq_true h1, decide_eq_false h2, decide_eq_true h3]; rfl
                    have HF := Lib.hid (show passT (prsT p) F (i + 1) = (G.set ea n, true) by rw [HPS.out, rlxP, HRX.out, hr]; simp)
                    have hst := (World.ownsRow.stored HROW.out ea (.int .i64 n)).1
                    rw [flatI_set] at hst
                    have HST := Lib.hid hst
                    clear hr hst
                    go_wp2_with fail
                    go_roundw
                    case rel => exact ⟨i + 1, by omega, by go_num, by rw [HF.out], by rw [HF.out]; exact HST.out, HBEL.out.setCell (p := ⟨gf, ea, none⟩) hgf _⟩
                    case measure => simp [intOf]; omega
                  · have hr : rlxB G (ea, ec) = false := by rw [HRL.out, decide_eq_true h1, decide_eq_false h2, decide_eq_false h3]; rfl
                    have HF := Lib.hid (show passT (prsT p) F (i + 1) = (G, bg) by rw [HPS.out, rlxP, HRX.out, hr]; simp)
                    clear hr
                    go_wp2_with fail
                    go_roundw
                    case rel => exact ⟨i + 1, by omega, by go_num, by rw [HF.out], by rw [HF.out]; exact HROW.out, HBEL.out⟩
                    case measure => simp [intOf]; omega
              · have hr : rlxB G (ea, ec) = false := by rw [HRL.out, decide_eq_false h1]; rfl
                have HF := Lib.hid (show passT (prsT p) F (i + 1) = (G, bg) by rw [HPS.out, rlxP, HRX.out, hr]; simp)
                clear hr
                go_wp2_with fail
                go_roundw
                case rel => exact ⟨i + 1, by omega, by go_num, by rw [HF.out], by rw [HF.out]; exact HROW.out, HBEL.out⟩
                case measure => simp [intOf]; omega
            · obtain rfl : i = EL := by omega
              have hta : (prsT p).take i = prsT p := List.take_of_length_le (by rw [prsT_len, ← HEL.out]; exact Nat.le_refl _)
              have hfa := HPA.out i
              rw [show ((prsT p).take i).foldl rlxP (F, false) = passT (prsT p) F i from rfl, hta] at hfa
              obtain ⟨G, hG⟩ : ∃ g, g = passT (prsT p) F i := ⟨_, rfl⟩
              rw [← hG] at hrow hfa ⊢
              have HFA := Lib.hid hfa
              have HROW := Lib.hid hrow
              have HBEL := Lib.hid hbel
              have hww := HW.out (by first | rfl | trivial)
              obtain ⟨G, bg⟩ := G
              clear hrow hbel hfa hta hG
              go_wp2_with fail
              cases bg with
              | false =>
                go_roundg 0
                case measure => omega
                case rel => exact ⟨false, G, rfl, HFA.out.1, (fun _ e he => by rw [(HFA.out.2.2.2 rfl).1]; exact (HFA.out.2.2.2 rfl).2 e he), (fun h => by cases h), HROW.out, HBEL.out⟩
              | true =>
                go_roundg (farW k G + 1)
                case measure =>
                  rcases HFA.out.2.2.1 rfl with h | h
                  · cases h
                  · (try simp only at h); omega
                case rel => exact ⟨true, G, rfl, HFA.out.1, (fun h => by cases h), (fun _ => Nat.lt_succ_self _), HROW.out, HBEL.out⟩
end Go.Proofs.Ythnapjodmndlaaa

/- The reference's AmbiguousWord gives the least ambiguous word. -/
namespace Go.Proofs.Ythnapjodmndlaaa
set_option linter.unusedVariables false
set_option linter.unusedSimpArgs false
open Go.ChangeShapes Go.WideShapes Go.ChangeAt Go.RowKit
attribute [local go_sem] ext_cell ext_frozen ext_lt ext_lt1 ext_lt2 ext_lt3 ltn2 ltn3 ltn13 lts1 lts2 lts3

theorem flatB_at {xs : List Bool} {t : Nat} {x : Bool} (h : xs[t]? = some x) : (xs.flatMap cB)[t]? = some (.bool x) := by
  have := flat_at cB_len h 0 _ rfl
  simpa using this
theorem flatB_set (xs : List Bool) (t : Nat) (x : Bool) : (xs.flatMap cB).set t (.bool x) = (xs.set t x).flatMap cB := by
  induction xs generalizing t with
  | nil => rfl
  | cons y ys ih =>
    cases t with
    | zero => rfl
    | succ t => simp only [List.flatMap_cons, List.set_cons_succ, cB, List.cons_append, List.nil_append]; rw [ih]
theorem getB_of {D : List Bool} {k : Nat} (h : k < D.length) : D[k]? = some (D.getD k false) := by rw [List.getD_eq_getElem?_getD, List.getElem?_eq_getElem h]; rfl
theorem tell_start {N : Nat} (h : 0 < N) : TellB N ((List.replicate N false).set 0 true) [0] := by
  refine ⟨by simp, fun i hi => by rw [List.mem_singleton] at hi; omega, fun i hi => ?_⟩
  rw [getD_setB (by simpa using h), List.mem_singleton]
  have : (List.replicate N false).getD i false = false := by
    rw [List.getD_eq_getElem?_getD, List.getElem?_replicate]
    split <;> rfl
  rw [this]
  split
  · simp_all
  · simp; omega
theorem flatN (l : List Nat) : l.flatMap cN = (l.map fun n : Nat => (n : Int)).flatMap cI := by
  induction l with
  | nil => rfl
  | cons x l ih => simp only [List.flatMap_cons, List.map_cons, ih]; rfl
theorem SlI.intJ {lo hi : Nat} {w : World} {A : Option Addr} {n c : Nat} {xs : List Int} (h : SlI lo hi w cI 1 (.slice A n c) xs) {i : Nat} {x : Int} (hx : xs[i]? = some x) :
    ∃ b o, A = some ⟨b, o, none⟩ ∧ b < hi ∧ w.cell? ⟨b, o + i, none⟩ = some (.int .i64 x) := by
  obtain ⟨A', c', hv, -, -, h⟩ := h
  cases hv
  obtain ⟨b, o, hA, -, h2, hc⟩ := h i x hx
  exact ⟨b, o, hA, h2, by simpa using hc 0 _ rfl⟩
/-- the word as integers -/
noncomputable def ambO (p : Pz) : List Int := (ambT p).1.map fun n : Nat => (n : Int)
theorem elBl : ElemOk Try.prog 49 4 (.bool false) 1 1 := ⟨Try.underlying49, by kernel_rfl, rfl, by omega⟩
structure AmR (w1 wr : World) (lo g N : Nat) (oo : Value) (O : List Nat) (H : List Bool) : Prop where
  out : wr.ownsRow lo 3 1 oo O.length (O.flatMap cN)
  place : ∀ b, oo.ownBlock = some b → b = lo ∨ w1.heap.size ≤ b
  here : wr.ownsRow w1.heap.size 4 1 (.slice (some ⟨g, 0, none⟩) N N) N (H.flatMap cB)
  ne : oo.ownBlock ≠ some g
  only : Only lo (lo + 1) w1 wr
section
variable {w1 wr w4 : World} {lo g g2 N : Nat} {oo v' : Value} {O : List Nat} {H G : List Bool}
theorem AmR.gLt (h : AmR w1 wr lo g N oo O H) : w1.heap.size ≤ g ∧ g < wr.heap.size := h.here.lt g rfl
theorem AmR.below (h : AmR w1 wr lo g N oo O H) (hb : Below wr.heap.size wr w4) : AmR w1 w4 lo g N oo O H :=
  ⟨ownsRow_below h.out hb (Nat.le_refl _), h.place, ownsRow_below h.here hb (Nat.le_refl _), h.ne, h.only.trans (Only.of_below (hb.mono (Nat.le_refl _)) _ _)⟩
theorem AmR.far (h : AmR w1 wr lo g N oo O H) (h1 : g2 ≠ g) (h2 : oo.ownBlock ≠ some g2) (h3 : w1.heap.size ≤ g2) (i : Nat) (u : Value) : AmR w1 (wr.setCell ⟨g2, i, none⟩ u) lo g N oo O H :=
  ⟨ownsRow_block h.out fun b hb => Below.heap_setCell _ _ _ _ (by intro e; simp only at e; subst e; exact h2 hb), h.place, ownsRow_block h.here fun b hb => Below.heap_setCell _ _ _ _ (by have hb : some g = some b := hb; cases hb; simp only; omega), h.ne, h.only.setCell (.inr (by simp only; omega)) _⟩
theorem AmR.swap (h : AmR w1 wr lo g N oo O H) (hr : wr.ownsRow w1.heap.size 4 1 (.slice (some ⟨g2, 0, none⟩) N N) N (G.flatMap cB)) (h2 : oo.ownBlock ≠ some g2) : AmR w1 wr lo g2 N oo O G := ⟨h.out, h.place, hr, h2, h.only⟩
theorem AmR.push (h : AmR w1 wr lo g N oo O H) {O' : List Nat} {o : Obj} (hrow : w4.ownsRow lo 3 1 v' O'.length (O'.flatMap cN)) (hg : (wr.alloc o).grownBy w4 oo.ownBlock) (hat : v'.ownBlock = oo.ownBlock ∨ ∃ b, v'.ownBlock = some b ∧ wr.heap.size ≤ b) : AmR w1 w4 lo g N v' O' H := by
  have hgl := h.gLt
  have hs := h.only.size
  refine ⟨hrow, ?_, ?_, ?_, ?_⟩
  · intro b hb
    rcases hat with e | ⟨c, e, hge⟩
    · exact h.place b (by rw [← e]; exact hb)
    · rw [e] at hb
      cases hb
      exact .inr (by omega)
  · refine ownsRow_block h.here fun b hb => ?_
    have hb : some g = some b := hb
    cases hb
    rw [hg.block g (by simp; omega) (fun e => h.ne e.symm), Below.heap_alloc _ _ _ hgl.2]
  · intro hb
    rcases hat with e | ⟨c, e, hge⟩
    · exact h.ne (by rw [← e]; exact hb)
    · rw [e] at hb
      cases hb
      omega
  · have h1 := h.only.alloc o
    exact ⟨hg.os.trans h1.os, hg.tape.trans h1.tape, hg.output.trans h1.output, Nat.le_trans h1.size hg.size, fun n hn ho => (hg.block n (Nat.lt_of_lt_of_le hn h1.size) (fun e => by have := h.place n e.symm; omega)).trans (h1.block n hn ho)⟩
theorem AmR.cellH (h : AmR w1 wr lo g N oo O H) (hN : H.length = N) {i : Nat} (hi : i < N) : wr.cell? ⟨g, i, none⟩ = some (.bool (H.getD i false)) ∧ wr.frozen? ⟨g, i, none⟩ = false :=
  ⟨(World.ownsRow.cellAt h.here i (by omega)).trans (flatB_at (getB_of (by omega))), World.ownsRow.frozenAt h.here i⟩
end
set_option maxRecDepth 100000 in
set_option maxHeartbeats 8000000 in
theorem specAmb (v : Value) (p : Pz) (w : World) (hv : PzV 0 w.heap.size w v p) :
    Calls Try.prog 11 #[v] w fun e w' => ∃ vo, e = .returned (.tuple #[vo, .bool (ambT p).2]) ∧ Own w.heap.size w'.heap.size w' 3 cI 1 vo (ambO p) ∧ Below w.heap.size w w' := by
  obtain ⟨R1, hR1⟩ : ∃ R, R = ambO p := ⟨_, rfl⟩
  obtain ⟨R2, hR2⟩ : ∃ R, R = (ambT p).2 := ⟨_, rfl⟩
  rw [← hR1, ← hR2]
  have HR1 := Lib.hid hR1
  have HR2 := Lib.hid hR2
  clear hR1 hR2
  have HV := Lib.hid hv
  have HVP := Lib.hid (fun W (h : Below w.heap.size w W) => specValidPos v p W (hv.keep h))
  obtain ⟨vq, vf, rfl, h1, h2⟩ := hv
  obtain ⟨A, n1, c, rfl⟩ := h1.shape
  obtain ⟨B, n2, c2, rfl⟩ := h2.shape
  obtain ⟨W0, hW0⟩ : ∃ W0, W0 = (w.alloc (.cells #[.slice A n1 c, .int .i64 p.first, .int .i64 p.last, .slice B n2 c2, .bool p.nul] 27)).alloc (.cells #[] 3) := ⟨_, rfl⟩
  have hbp : Blk W0 w.heap.size 27 #[.slice A n1 c, .int .i64 p.first, .int .i64 p.last, .slice B n2 c2, .bool p.nul] := by rw [hW0]; exact (Blk.new _ _ _ _ rfl).alloc _
  have hb0 : Below w.heap.size w W0 := by rw [hW0]; exact ((Below.refl _ _).alloc (Nat.le_refl _) _).alloc (by simp) _
  have hsz : W0.heap.size = w.heap.size + 1 + 1 := by rw [hW0]; simp
  have hro : W0.ownsRow (w.heap.size + 1) 3 1 (.slice (some ⟨w.heap.size + 1, 0, none⟩) 0 0) 0 [] := by
    have h := World.ownsRow_lit (base := w.heap.size + 1) (e := 3) (size := 1) (w.alloc (.cells #[.slice A n1 c, .int .i64 p.first, .int .i64 p.last, .slice B n2 c2, .bool p.nul] 27)) #[] 0 (by simp) (by decide) rfl
    rw [hW0]
    simpa using h
  have HBP := Lib.hid hbp
  have HB0 := Lib.hid hb0
  have HRO := Lib.hid hro
  have x0 : W0.cell? ⟨w.heap.size, 0, none⟩ = some (.slice A n1 c) := by exact hbp.cell 0
  have x1 : W0.cell? ⟨w.heap.size, 1, none⟩ = some (.int .i64 p.first) := by exact hbp.cell 1
  have x2 : W0.cell? ⟨w.heap.size, 2, none⟩ = some (.int .i64 p.last) := by exact hbp.cell 2
  have x3 : W0.cell? ⟨w.heap.size, 3, none⟩ = some (.slice B n2 c2) := by exact hbp.cell 3
  have x4 : W0.cell? ⟨w.heap.size, 4, none⟩ = some (.bool p.nul) := by exact hbp.cell 4
  have hl0 : w.heap.size < W0.heap.size := by omega
  clear h1 h2 hbp hb0 hro
  go_enter Try.func11, Try.ntmps11
  go_upto_region 2 with fail
  rw [← hW0]
  clear hW0
  go_wp2_with fail
  refine (HVP.out _ HB0.out).mono ?_
  rintro e w2 ⟨rfl, hb2⟩
  have x0 := kcell hb2 x0
  have x1 := kcell hb2 x1
  have x2 := kcell hb2 x2
  have x3 := kcell hb2 x3
  have x4 := kcell hb2 x4
  have hl0 := Nat.lt_of_lt_of_le hl0 hb2.size
  have hs2 := hb2.size
  have HRO := Lib.hid (ownsRow_below HRO.out hb2 (by omega))
  have HB2 := Lib.hid (below_trans HB0.out hb2)
  have HBP := Lib.hid (HBP.out.keep hb2)
  clear hb2
  cases hok : pzOk p with
  | false =>
    have hE : ambT p = ([], false) := by rw [ambT, hok]; rfl
    have e1 : R1 = [] := by rw [HR1.out, ambO, hE]; rfl
    have e2 : R2 = false := by rw [HR2.out, hE]
    subst e1 e2
    clear hE HR1 HR2
    go_wp2_with fail
    go_ret2
    exact ⟨_, rfl, (Own.of_row (xs := ([] : List Int)) HRO.out rfl rfl).mono (by omega) (Nat.le_refl _), HB2.out⟩
  | true =>
    have HOK := Lib.hid hok
    have HAT := Lib.hid (show ambT p = if dT p 0 < 0 then ([], false) else (ambW p, true) by rw [ambT, hok]; rfl)
    clear hok
    go_wp2_with fail
    refine (specPairs _ p _ (HV.out.keep HB2.out) HOK.out).mono ?_
    rintro e w3 ⟨vl, ve, rfl, hol, hoe, hb3⟩
    have h20 := (pz_facts HOK.out).1
    have hN882 : (endT p).length ≤ 882 := by rw [endT]; exact allT_len h20 882
    have hNpos : 0 < (endT p).length := (List.getElem?_eq_some_iff.1 (endT_start p)).1
    have HSL := Lib.hid (hol.sl cNt_len)
    have HSE := Lib.hid (hoe.sl cEg_len)
    have hl1 := hol.1
    have he1 := hoe.sl cEg_len
    obtain ⟨N, hN⟩ : ∃ N, N = (endT p).length := ⟨_, rfl⟩
    obtain ⟨EL, hEL⟩ : ∃ EL, EL = (edsT p).length := ⟨_, rfl⟩
    rw [← hN] at hl1 hN882 hNpos
    obtain ⟨gl, cl, rfl, -, -, -, -⟩ := own_some hl1 (by omega)
    obtain ⟨A4, c4, rfl, hl4, hm4, -⟩ := he1
    rw [← hEL] at hl4 HSE ⊢
    unfold maxLen at hm4
    have x0 := kcell hb3 x0
    have x1 := kcell hb3 x1
    have x2 := kcell hb3 x2
    have x3 := kcell hb3 x3
    have x4 := kcell hb3 x4
    have hl0 := Nat.lt_of_lt_of_le hl0 hb3.size
    have HB3 := Lib.hid (below_trans HB2.out hb3)
    have HRO := Lib.hid (ownsRow_below HRO.out hb3 (Nat.le_refl _))
    have hs3 := hb3.size
    have HN := Lib.hid hN
    have HEL := Lib.hid hEL
    clear hol hoe hl1 hb3 hN hEL
    go_wp2_with fail
    refine (specFar _ _ _ p w3 (HV.out.keep HB3.out) HOK.out ((HSL.out.all (Nat.le_refl _))) ((HSE.out.all (Nat.le_refl _)))).mono ?_
    rintro e w4 ⟨vf, F, rfl, hof, hfi, hfd, hb4⟩
    have hf1 := hof.1
    have hFl := hfi.len
    rw [← HN.out] at hfi hfd hFl
    rw [hFl] at hf1
    have hF0 := hfd 0 hNpos
    have hFlt := hfi.lt hNpos
    obtain ⟨gf, cf, rfl, hgf, hgfw, -, -⟩ := own_some hf1 (by omega)
    have HSF := Lib.hid (hof.sl cI_len)
    have hc0 := (World.ownsRow.cellAt hf1 0 (by omega)).trans (flatI_at (getD_of (D := F) (k := 0) (by omega)))
    rw [hF0] at hc0 hFlt
    have hs4 := hb4.size
    have HSE := Lib.hid (HSE.out.below hb4 (Nat.le_refl _))
    have HB4 := Lib.hid (below_trans HB3.out hb4)
    have HRO := Lib.hid (ownsRow_below HRO.out hb4 (Nat.le_refl _))
    have HFD := Lib.hid hfd
    have HFL := Lib.hid hFl
    clear hof hf1 hfi hfd hFl hb4 x0 x1 x2 x3 x4 hl0 hF0
    by_cases hneg : dT p 0 < 0
    · have hE : ambT p = ([], false) := by rw [HAT.out, if_pos hneg]
      have e1 : R1 = [] := by rw [HR1.out, ambO, hE]; rfl
      have e2 : R2 = false := by rw [HR2.out, hE]
      subst e1 e2
      clear hE HR1 HR2 HAT
      go_wp2_with fail
      go_ret2
      exact ⟨_, rfl, (Own.of_row (xs := ([] : List Int)) HRO.out rfl rfl).mono (by omega) (Nat.le_refl _), HB4.out⟩
    · have hE : ambT p = (ambW p, true) := by rw [HAT.out, if_neg hneg]
      have e2 : R2 = true := by rw [HR2.out, hE]
      subst e2
      have HR1 := Lib.hid (show R1 = (ambW p).map fun n : Nat => (n : Int) by rw [HR1.out, ambO, hE])
      clear hE HR2 HAT
      obtain ⟨n0, hn0⟩ : ∃ n0 : Nat, n0 = (dT p 0).toNat := ⟨_, rfl⟩
      have hd0 : dT p 0 = (n0 : Int) := by omega
      have HAW := Lib.hid (show ambW p = wordT 9 (nxI p) (dT p) n0 [0] by rw [ambW, hn0])
      rw [hd0] at hc0 hFlt
      have HD0 := Lib.hid hd0
      have hnn : ¬ (n0 : Int) < 0 := by omega
      clear hneg hn0 hd0
      have hz : ((List.replicate N false).flatMap cB)[0]? = some (.bool false) := flatB_at (by rw [List.getElem?_replicate, if_pos hNpos])
      have HZ := Lib.hid hz
      have hne : ¬ w4.heap.size = gf := by omega
      have hne2 : ¬ gf = w4.heap.size := by omega
      have hgl5 : gf < w4.heap.size + 1 := by omega
      have hN0 : (0 : Int) < (N : Int) := by omega
      clear hz
      go_wp2_with (at_make; refine wpList_makeE (P := Try.prog) cB false elBl rfl rfl rfl _ _ rfl w4.heap.size N _ (by rfl) (by rfl) rfl (by omega) (by unfold maxLen; omega) (Nat.le_refl _) ?_; intro w5 hrow5 hbel5; have HROW5 := Lib.hid hrow5; have HBEL5 := Lib.hid hbel5; have hc5 := (World.ownsRow.cellAt hrow5 0 (by omega)).trans HZ.out; have hf5 := World.ownsRow.frozenAt hrow5 0; have hcf := kcell hbel5 hc0; have hl5 := (hrow5.lt _ rfl).2; have hg5 := Nat.lt_of_lt_of_le hgfw hbel5.size; clear hrow5 hbel5)
      have hst : AmR w4 (w5.setCell ⟨w4.heap.size, 0, none⟩ (.bool true)) (w.heap.size + 1) w4.heap.size N (.slice (some ⟨w.heap.size + 1, 0, none⟩) 0 0) [] ((List.replicate N false).set 0 true) := by
        have h1 := (World.ownsRow.stored HROW5.out 0 (.bool true)).1
        rw [flatB_set] at h1
        refine ⟨?_, ?_, h1, ?_, ?_⟩
        · exact ownsRow_block (ownsRow_below HRO.out HBEL5.out (Nat.le_refl _)) fun b hb => Below.heap_setCell _ _ _ _ (by have hb : some (w.heap.size + 1) = some b := hb; cases hb; simp only; omega)
        · intro b hb
          have hb : some (w.heap.size + 1) = some b := hb
          cases hb
          exact .inl rfl
        · intro hb
          have hb : some (w.heap.size + 1) = some w4.heap.size := hb
          injection hb with hb
          omega
        · exact (Only.of_below HBEL5.out _ _).setCell (.inr (Nat.le_refl _)) _
      have HST := Lib.hid hst
      have HTS := Lib.hid (tell_start hNpos)
      have hlo : w.heap.size + 1 + 1 ≤ w2.heap.size := by omega
      have hs24 : w3.heap.size ≤ w4.heap.size := hs4
      have H20 := Lib.hid h20
      clear hst hc5 hf5 hcf hl5 hg5 HROW5 HBEL5 HZ hne hne2 hgl5 hN0 hc0 HRO h20
      go_loopw [4, 8, 9, 10, 11, 12, 13] (fun oo hh ll _ _ _ _ wr => ∃ (n g : Nat) (S O : List Nat) (H : List Bool), ll = .int .i64 (n : Int) ∧ hh = .slice (some ⟨g, 0, none⟩) N N ∧ O.length + n = n0 ∧ AmR w4 wr (w.heap.size + 1) g N oo O H ∧ TellB N H S ∧ (∃ i, i ∈ S) ∧ (∀ i ∈ S, dT p i = (n : Int)) ∧ O ++ wordT 9 (nxI p) (dT p) n S = ambW p) (fun _ _ ll _ _ _ _ _ => (intOf ll).toNat)
      case atStart => exact ⟨n0, w4.heap.size, [0], [], (List.replicate N false).set 0 true, rfl, rfl, by simp, HST.out, HTS.out, ⟨0, by simp⟩, (fun i hi => by rw [List.mem_singleton] at hi; rw [hi]; exact HD0.out), by rw [HAW.out]; rfl⟩
      case round =>
        clear HST HTS
        obtain ⟨n, g, S, O, H, rfl, rfl, hon, har, htl, hne, hsd, haw⟩ := hrel
        obtain ⟨wo, rfl⟩ : ∃ wo : World, wo = wr := ⟨_, rfl⟩
        obtain ⟨A9, n9, c9, rfl⟩ := (Own.of_row har.out rfl rfl).shape
        have HAR := Lib.hid har
        have HTL := Lib.hid htl
        have HNE := Lib.hid hne
        have HSD := Lib.hid hsd
        have HOA := Lib.hid haw
        have hoL : O.length ≤ 882 := by omega
        have hn8 : n ≤ 882 := by omega
        have HON := Lib.hid hon
        clear htl hne hsd haw hon
        cases n with
        | zero =>
          have HRW := Lib.hid har.out
          have HBF := Lib.hid (HB4.out.trans (har.only.below (B := w.heap.size) (by omega) (by omega)))
          have hRE : R1 = O.map fun n : Nat => (n : Int) := by rw [HR1.out, ← HOA.out, wordT, List.append_nil]
          clear har
          go_wp2_with fail
          go_ret2
          refine ⟨_, rfl, ?_, HBF.out⟩
          have h := HRW.out
          rw [flatN] at h
          exact (Own.of_row h (by rw [hRE, List.length_map]) (by rw [hRE])).mono (by omega) (Nat.le_refl _)
        | succ m =>
          obtain ⟨k, hk1, hk9, hkw, hkt, hkn, hks⟩ := amb_round (n := m) (F := F) (H := H) (S := S) H20.out (fun i hi => HFD.out i (by rw [HN.out]; exact hi)) (by rw [← HN.out]; exact HTL.out) HNE.out HSD.out
          have HKW := Lib.hid hkw
          have HKT := Lib.hid hkt
          have HKN := Lib.hid hkn
          have HKS := Lib.hid hks
          have HK1 := Lib.hid hk1
          have HED := Lib.hid (HSE.out.only har.only hs24 (.inr hlo))
          have HFR := Lib.hid (HSF.out.only har.only (Nat.le_refl _) (.inr (by omega)))
          have hgl := har.gLt
          have hws := har.only.size
          have hwr1 : IntKind.i64.wrap (((m + 1 : Nat) : Int) - 1) = (m : Int) := by rw [IntWalk.i64_in _ (by omega)]; omega
          have hmp : (0 : Int) < ((m + 1 : Nat) : Int) := by omega
          clear hkw hkt hkn hks hk1 har
          go_wp2_with fail
          go_loopw [10, 11] (fun mm ii wr => ∃ i : Nat, i ≤ EL ∧ ii = .int .i64 (i : Int) ∧ mm = .int .i64 ((letE H F m ((edsT p).take i) : Nat) : Int) ∧ wr = wo) (fun _ ii _ => EL - (intOf ii).toNat)
          case atStart => exact ⟨0, Nat.zero_le _, rfl, rfl, rfl⟩
          case round =>
            obtain ⟨i, hi, rfl, rfl, rfl⟩ := hrel
            by_cases hlt : i < EL
            · skip
              have hat : (edsT p)[i]? = some ((edsT p)[i]'(by rw [← HEL.out]; exact hlt)) := List.getElem?_eq_getElem _
              obtain ⟨⟨ea, eb, ec⟩, he⟩ : ∃ e, e = (edsT p)[i]'(by rw [← HEL.out]; exact hlt) := ⟨_, rfl⟩
              rw [← he] at hat
              have hpl := prsT_lt H20.out _ (List.mem_of_getElem? (prsT_at hat))
              rw [← HN.out] at hpl
              simp only at hpl
              obtain ⟨b1, o1, rfl, hb1, d0, d1, d2⟩ := HED.out.eg hat
              simp only at d0 d1 d2
              have hh0 := (HAR.out.cellH HTL.out.len hpl.1).1
              obtain ⟨bf, of, ef, hbf, hf0⟩ := HFR.out.intJ (getD_of (D := F) (k := ec) (by rw [HFL.out]; exact hpl.2))
              cases ef
              rw [Nat.zero_add] at hf0
              obtain ⟨fv, hfv⟩ : ∃ f, f = F.getD ec 0 := ⟨_, rfl⟩
              obtain ⟨hv, hhv⟩ : ∃ f, f = H.getD ea false := ⟨_, rfl⟩
              have HONE := Lib.hid (show onE H F m (ea, eb, ec) = (hv && decide (fv = (m : Int))) by rw [hhv, hfv]; rfl)
              rw [← hfv] at hf0
              rw [← hhv] at hh0
              have hii : (i : Int) < (EL : Int) := by omega
              have hti : (ec : Int) < (N : Int) := by have := hpl.2; omega
              have htj : (ea : Int) < (N : Int) := by have := hpl.1; omega
              clear he hpl hfv hhv
              have HLS := Lib.hid (letE_succ (H := H) (F := F) (n := m) hat)
              have HLE := Lib.hid (letE_le H F m ((edsT p).take i))
              obtain ⟨M, hM⟩ : ∃ M, M = letE H F m ((edsT p).take i) := ⟨_, rfl⟩
              rw [← hM] at HLS HLE ⊢
              have h9 := HLE.out
              clear hM hat HLE
              cases hv with
              | false =>
                have HF := Lib.hid (show letE H F m ((edsT p).take (i + 1)) = M by rw [HLS.out, HONE.out]; rfl)
                go_wp2_with fail
                go_roundw
                case rel => exact ⟨i + 1, by omega, by go_num, by rw [HF.out], trivial⟩
                case measure => simp [intOf]; omega
              | true =>
                by_cases hq2 : fv = (m : Int)
                · have HF := Lib.hid (show letE H F m ((edsT p).take (i + 1)) = min M eb by rw [HLS.out, HONE.out, decide_eq_true hq2]; rfl)
                  subst hq2
                  go_wp2_with fail
                  go_roundw
                  case rel => exact ⟨i + 1, by omega, by go_num, by rw [HF.out]; congr 1; split <;> omega, trivial⟩
                  case measure => simp [intOf]; omega
                · have HF := Lib.hid (show letE H F m ((edsT p).take (i + 1)) = M by rw [HLS.out, HONE.out, decide_eq_false hq2]; rfl)
                  go_wp2_with fail
                  go_roundw
                  case rel => exact ⟨i + 1, by omega, by go_num, by rw [HF.out], trivial⟩
                  case measure => simp [intOf]; omega
            · obtain rfl : EL = i := by omega
              have hle : letE H F m ((edsT p).take EL) = k := by rw [show (edsT p).take EL = edsT p from List.take_of_length_le (by rw [← HEL.out]; exact Nat.le_refl _)]; exact HK1.out
              rw [hle]
              clear hle
              obtain ⟨g2, hg2⟩ : ∃ g2, g2 = wr.heap.size := ⟨_, rfl⟩
              have hne2 : g2 ≠ g := by rw [hg2]; have := HAR.out.gLt.2; omega
              have HNO := Lib.hid (show (Value.slice A9 n9 c9).ownBlock ≠ some g2 from fun hb => by have := (HAR.out.out.lt g2 hb).2; omega)
              have hgw4 : w4.heap.size ≤ g2 := by rw [hg2]; exact HAR.out.only.size
              have hmx : w4.heap.size ≤ wr.heap.size := HAR.out.only.size
              go_wp2_with (at_make; refine wpList_makeE (P := Try.prog) cB false elBl rfl rfl rfl _ _ rfl w4.heap.size N _ (by rfl) (by rfl) rfl (by omega) (by unfold maxLen; omega) hmx ?_; intro w6 hrow6 hbel6; rw [← hg2] at hrow6; have HROW6 := Lib.hid hrow6; have HBEL6 := Lib.hid hbel6; clear hrow6 hbel6)
              rw [← hg2]
              have HAR := Lib.hid (HAR.out.below HBEL6.out)
              clear HED HFR hgl hws hg2 hmx HBEL6
              go_loopw [13] (fun ii wr => ∃ i : Nat, i ≤ EL ∧ ii = .int .i64 (i : Int) ∧ AmR w4 wr (w.heap.size + 1) g N (.slice A9 n9 c9) O H ∧ wr.ownsRow w4.heap.size 4 1 (.slice (some ⟨g2, 0, none⟩) N N) N ((setE H F m k N ((edsT p).take i)).flatMap cB)) (fun ii _ => EL - (intOf ii).toNat)
              case atStart => exact ⟨0, Nat.zero_le _, rfl, HAR.out, HROW6.out⟩
              case round =>
                clear HAR HROW6
                obtain ⟨i, hi, rfl, har, hrow⟩ := hrel
                have HAR := Lib.hid har
                have HROW := Lib.hid hrow
                have HED := Lib.hid (HSE.out.only har.only hs24 (.inr hlo))
                have HFR := Lib.hid (HSF.out.only har.only (Nat.le_refl _) (.inr (by omega)))
                have hg2w := (hrow.lt g2 rfl).2
                have hws := har.only.size
                have hgl := har.gLt.2
                clear har hrow
                by_cases hlt : i < EL
                · skip
                  have hat : (edsT p)[i]? = some ((edsT p)[i]'(by rw [← HEL.out]; exact hlt)) := List.getElem?_eq_getElem _
                  obtain ⟨⟨ea, eb, ec⟩, he⟩ : ∃ e, e = (edsT p)[i]'(by rw [← HEL.out]; exact hlt) := ⟨_, rfl⟩
                  rw [← he] at hat
                  have hpl := prsT_lt H20.out _ (List.mem_of_getElem? (prsT_at hat))
                  rw [← HN.out] at hpl
                  simp only at hpl
                  obtain ⟨b1, o1, rfl, hb1, d0, d1, d2⟩ := HED.out.eg hat
                  simp only at d0 d1 d2
                  have hh0 := (HAR.out.cellH HTL.out.len hpl.1).1
                  obtain ⟨bf, of, ef, hbf, hf0⟩ := HFR.out.intJ (getD_of (D := F) (k := ec) (by rw [HFL.out]; exact hpl.2))
                  cases ef
                  rw [Nat.zero_add] at hf0
                  obtain ⟨fv, hfv⟩ : ∃ f, f = F.getD ec 0 := ⟨_, rfl⟩
                  obtain ⟨hv, hhv⟩ : ∃ f, f = H.getD ea false := ⟨_, rfl⟩
                  have HONE := Lib.hid (show onE H F m (ea, eb, ec) = (hv && decide (fv = (m : Int))) by rw [hhv, hfv]; rfl)
                  rw [← hfv] at hf0
                  rw [← hhv] at hh0
                  have hii : (i : Int) < (EL : Int) := by omega
                  have hti : (ec : Int) < (N : Int) := by have := hpl.2; omega
                  have htj : (ea : Int) < (N : Int) := by have := hpl.1; omega
                  clear he hpl hfv hhv
                  have HLS := Lib.hid (setE_succ (H := H) (F := F) (n := m) (k := k) (N := N) hat)
                  have hb1w : b1 < wr.heap.size := by omega
                  have hfz := World.ownsRow.frozenAt HROW.out ec
                  obtain ⟨G, hG⟩ : ∃ G, G = setE H F m k N ((edsT p).take i) := ⟨_, rfl⟩
                  rw [← hG] at HROW HLS
                  obtain ⟨uz, huz⟩ : ∃ u, (G.flatMap cB)[ec]? = some u := ⟨_, List.getElem?_eq_getElem (by rw [HROW.out.1]; omega)⟩
                  have hcz := (World.ownsRow.cellAt HROW.out ec (by omega)).trans huz
                  clear hat hG huz
                  cases hv with
                  | false =>
                    have HF := Lib.hid (show setE H F m k N ((edsT p).take (i + 1)) = G by rw [HLS.out, HONE.out]; rfl)
                    go_wp2_with fail
                    go_roundw
                    case rel => exact ⟨i + 1, by omega, by go_num, HAR.out, by rw [HF.out]; exact HROW.out⟩
                    case measure => simp [intOf]; omega
                  | true =>
                    by_cases hq1 : eb = k
                    · by_cases hq2 : fv = (m : Int)
                      · have HF := Lib.hid (show setE H F m k N ((edsT p).take (i + 1)) = G.set ec true by rw [HLS.out, HONE.out, decide_eq_true hq2, decide_eq_true hq1]; rfl)
                        have hst := (World.ownsRow.stored HROW.out ec (.bool true)).1
                        rw [flatB_set] at hst
                        have HST := Lib.hid hst
                        clear hst
                        subst hq2
                        subst hq1
                        go_wp2_with fail
                        go_roundw
                        case rel => exact ⟨i + 1, by omega, by go_num, HAR.out.far hne2 HNO.out hgw4 ec _, by rw [HF.out]; exact HST.out⟩
                        case measure => simp [intOf]; omega
                      · have HF := Lib.hid (show setE H F m k N ((edsT p).take (i + 1)) = G by rw [HLS.out, HONE.out, decide_eq_false hq2]; rfl)
                        subst hq1
                        go_wp2_with fail
                        go_roundw
                        case rel => exact ⟨i + 1, by omega, by go_num, HAR.out, by rw [HF.out]; exact HROW.out⟩
                        case measure => simp [intOf]; omega
                    · have HF := Lib.hid (show setE H F m k N ((edsT p).take (i + 1)) = G by rw [HLS.out, HONE.out, decide_eq_false hq1, Bool.and_false]; rfl)
                      have hq3 : ¬ (eb : Int) = (k : Int) := by omega
                      go_wp2_with fail
                      go_roundw
                      case rel => exact ⟨i + 1, by omega, by go_num, HAR.out, by rw [HF.out]; exact HROW.out⟩
                      case measure => simp [intOf]; omega
                · obtain rfl : EL = i := by omega
                  have hle : (edsT p).take EL = edsT p := List.take_of_length_le (by rw [← HEL.out]; exact Nat.le_refl _)
                  rw [hle] at HROW
                  have HAS := Lib.hid (HAR.out.swap HROW.out HNO.out)
                  have hlo1 : w.heap.size + 1 ≤ wr.heap.size := by omega
                  have qb1 : (O.length + 1) * 8 ≤ 140737488355328 := by omega
                  clear hle HED HFR
                  go_wp2_with (at_builtin; (refine wpList_append1 cN elInt rfl _ _ rfl (w.heap.size + 1) _ O k _ 1 _ (by rfl) HAS.out.out (by rfl) rfl rfl rfl (cN_one _) qb1 (by decide) hlo1 ?_); intro v8 w8 hrow8 hb8 hat8 hgr8)
                  go_roundw
                  case rel => exact ⟨m, g2, nowT (nxI p) (dT p) S m k, O ++ [k], setE H F m k N (edsT p), by go_num, rfl, by rw [List.length_append, List.length_singleton]; have := HON.out; omega, HAS.out.push hrow8 hgr8 hat8, by have h := HKT.out; rw [← HN.out] at h; exact h, HKN.out, HKS.out, by rw [← HOA.out, HKW.out, List.append_assoc]; rfl⟩
                  case measure => (simp [intOf] <;> omega)
end Go.Proofs.Ythnapjodmndlaaa

/- The program's functions on automata. -/
namespace Go.Proofs.Ythnapjodmndlaaa
set_option linter.unusedVariables false
set_option linter.unusedSimpArgs false
open Go.ChangeShapes Go.WideShapes Go.ChangeAt Go.RowKit
attribute [local go_sem] ext_cell ext_frozen ext_lt ext_lt1 ext_lt2 ext_lt3 ltn2 ltn3 ltn13 lts1 lts2 lts3

theorem within_any (n a b : Int) (w : World) : Calls Try.prog 40 #[.int .i64 n, .int .i64 a, .int .i64 b] w fun e w' => e = .returned (.bool (wi n a b)) ∧ w' = w := by
  unfold wi
  by_cases h1 : a ≤ n
  · have e1 : decide (a ≤ n) = true := by simpa using h1
    by_cases h2 : n ≤ b
    · go_enter Try.func40, Try.ntmps40
      go_wp2
      go_ret
      exact ⟨by simp [h1, h2], rfl⟩
    · go_enter Try.func40, Try.ntmps40
      go_wp2
      go_ret
      exact ⟨by simp [h1]; try omega, rfl⟩
  · have e1 : decide (a ≤ n) = false := by simpa using h1
    go_enter Try.func40, Try.ntmps40
    go_wp2
    go_ret
    exact ⟨by simp [h1]; try omega, rfl⟩


end Go.Proofs.Ythnapjodmndlaaa

/- The program's sets of states: move, closure, members, after, acceptsAt. -/
namespace Go.Proofs.Ythnapjodmndlaaa
set_option linter.unusedVariables false
set_option linter.unusedSimpArgs false
open Go.ChangeShapes Go.WideShapes Go.ChangeAt Go.RowKit
attribute [local go_sem] ext_cell ext_frozen ext_lt ext_lt1 ext_lt2 ext_lt3 ltn2 ltn3 ltn13 lts1 lts2 lts3

theorem isLetter_any (n : Int) (w : World) : Calls Try.prog 41 #[.int .i64 n] w fun e w' => e = .returned (.bool (wi n 0 8)) ∧ w' = w := by
  have HW := Lib.hid within_any
  go_enter Try.func41, Try.ntmps41
  go_wp2_with (go_at_call 40; refine (HW.out _ _ _ _).mono ?_; rintro e w' ⟨rfl, rfl⟩)
  go_ret
  exact ⟨rfl, rfl⟩





theorem bit_in {n m t : Nat} (hm : m < 2 ^ n) (ht : m.testBit t = true) : t < n := by
  rcases Nat.lt_or_ge t n with h | h
  · exact h
  · have := Nat.testBit_lt_two_pow (Nat.lt_of_lt_of_le hm (Nat.pow_le_pow_right (by omega) h))
    rw [ht] at this; cases this
end Go.Proofs.Ythnapjodmndlaaa

