/- Parts of the proof, joined into one text: RnkI, RnkS. -/
import Derived.Test.YtlhpcknpjdeebaaPartFONILDPH
import Derived.Test.YtlhpcknpjdeebaaPartBEHCIADD
import Derived.Test.YtlhpcknpjdeebaaPartPCJDHOHD
import Derived.Test.YtlhpcknpjdeebaaPartGNMHAPIG
/- The program's RankShortest. -/
namespace Go.Proofs.Ytlhpcknpjdeebaa
set_option linter.unusedVariables false
set_option linter.unusedSimpArgs false
open Go.ChangeShapes Go.WideShapes Go.ChangeAt Go.RowKit Go.Maps
attribute [local go_sem] ext_cell ext_frozen ext_lt ext_lt1 ext_lt2 ext_lt3 ltn2 ltn3 ltn13 lts1 lts2 lts3

theorem rankSh_yes {g : Gr} {a : Au} {x y : Int} {k : Wk} {L : Nat} (h : shortLen g a x y = (L : Int)) (hl : k.2.length = L) (hw : isWit g a x y k = true) : rankSh g a x y k = (rankTo g a y k L L : Nat) := by
  rw [rankSh, if_pos, hl]
  rw [hw, h, hl]; simp
theorem rankSh_no {g : Gr} {a : Au} {x y : Int} {k : Wk} (h : shortLen g a x y < 0 ∨ ¬ (k.2.length : Int) = shortLen g a x y ∨ isWit g a x y k = false) : rankSh g a x y k = -1 := by
  rw [rankSh, if_neg]
  simp only [Bool.and_eq_true, decide_eq_true_eq]
  rintro ⟨⟨h1, h2⟩, h3⟩
  rcases h with h | h | h
  · omega
  · exact h h2
  · rw [h] at h3; cases h3
theorem beq_step (u v : St) : (u == v) = true ↔ u = v := by simp
set_option maxHeartbeats 8000000 in
set_option maxRecDepth 100000 in
theorem implRankShortest (vg va vk : Value) (g : Gr) (a : Au) (x y : Int) (k : Wk) (w : World) (hgv : GrV 0 w.heap.size w vg g) (hav : AuV 0 w.heap.size w va a) (hkv : WkV 0 w.heap.size w vk k) :
    Calls Try.prog 23 #[vg, va, .int .i64 x, .int .i64 y, vk] w fun e w' => e = .returned (.int .i64 (rankSh g a x y k)) ∧ Below w.heap.size w w' := by
  have hgv0 := hgv
  have hav0 := hav
  have hkv0 := hkv
  obtain ⟨A1, n1, c1, A2, n2, c2, rfl⟩ := hgv.shape
  obtain ⟨A3, n3, c3, A4, n4, c4, rfl⟩ := hav.shape
  obtain ⟨A5, c5, rfl, hl5, hm5, hC5⟩ := hkv.form
  have hb0 : Below w.heap.size w (((w.alloc (.cells #[.slice A1 n1 c1, .slice A2 n2 c2] 39)).alloc (.cells #[.int .i64 a.start, .slice A3 n3 c3, .slice A4 n4 c4] 41)).alloc (.cells #[.int .i64 k.1, .slice A5 k.2.length c5] 34)) := (((Below.refl _ _).alloc (Nat.le_refl _) _).alloc (by simp) _).alloc (by simp; omega) _
  have hbG := ((Blk.new w 39 #[.slice A1 n1 c1, .slice A2 n2 c2] w.heap.size rfl).alloc (.cells #[.int .i64 a.start, .slice A3 n3 c3, .slice A4 n4 c4] 41)).alloc (.cells #[.int .i64 k.1, .slice A5 k.2.length c5] 34)
  have hbA := (Blk.new (w.alloc (.cells #[.slice A1 n1 c1, .slice A2 n2 c2] 39)) 41 #[.int .i64 a.start, .slice A3 n3 c3, .slice A4 n4 c4] (w.heap.size + 1) (by simp)).alloc (.cells #[.int .i64 k.1, .slice A5 k.2.length c5] 34)
  have hbK := Blk.new ((w.alloc (.cells #[.slice A1 n1 c1, .slice A2 n2 c2] 39)).alloc (.cells #[.int .i64 a.start, .slice A3 n3 c3, .slice A4 n4 c4] 41)) 34 #[.int .i64 k.1, .slice A5 k.2.length c5] (w.heap.size + 1 + 1) (by simp)
  have HBG := Lib.hid hbG
  have HBA := Lib.hid hbA
  have HBK := Lib.hid hbK
  have HGV := Lib.hid hgv0
  have HAV := Lib.hid hav0
  have HKV := Lib.hid hkv0
  have HC5 := Lib.hid hC5
  have HB0 := Lib.hid hb0
  have HSL := Lib.hid (fun (W : World) (hW : Below w.heap.size w W) => implShortestLength _ _ g a x y W (HGV.out.keep hW) (HAV.out.keep hW))
  have HIW := Lib.hid (fun (W : World) (hW : Below w.heap.size w W) => implIsWitness _ _ _ g a x y k W (HGV.out.keep hW) (HAV.out.keep hW) (HKV.out.keep hW))
  obtain ⟨R, hR⟩ : ∃ R, R = rankSh g a x y k := ⟨_, rfl⟩
  rw [← hR]
  clear hgv hav hkv hgv0 hav0 hkv0 hb0 hbG hbA hbK hC5
  by_cases hneg : shortLen g a x y < 0
  · have HF := Lib.hid (show R = -1 by rw [hR]; exact rankSh_no (.inl hneg))
    generalize shortLen g a x y = SL at *
    clear hR
    go_enter Try.func23, Try.ntmps23
    go_wp2_with fail
    refine (HSL.out _ HB0.out).mono ?_
    rintro e w1 ⟨rfl, hb1⟩
    have hb2 := below_trans HB0.out hb1
    go_wp2_with fail
    go_ret
    exact ⟨by rw [HF.out]; rfl, hb2⟩
  · by_cases hlen : (k.2.length : Int) = shortLen g a x y
    · cases hw : isWit g a x y k with
      | false =>
        have HF := Lib.hid (show R = -1 by rw [hR]; exact rankSh_no (.inr (.inr hw)))
        rw [hw] at HIW
        rw [← hlen] at HSL
        have hneg1 : ¬ (k.2.length : Int) < 0 := by omega
        clear hR hneg hlen hw
        go_enter Try.func23, Try.ntmps23
        go_wp2_with fail
        refine (HSL.out _ HB0.out).mono ?_
        rintro e w1 ⟨rfl, hb1⟩
        have hb2 := below_trans HB0.out hb1
        have x0 : w1.cell? ⟨w.heap.size, 0, none⟩ = some (.slice A1 n1 c1) := (HBG.out.keep hb1).cell 0
        have x1 : w1.cell? ⟨w.heap.size, 1, none⟩ = some (.slice A2 n2 c2) := (HBG.out.keep hb1).cell 1
        have y0 : w1.cell? ⟨w.heap.size + 1, 0, none⟩ = some (.int .i64 a.start) := (HBA.out.keep hb1).cell 0
        have y1 : w1.cell? ⟨w.heap.size + 1, 1, none⟩ = some (.slice A3 n3 c3) := (HBA.out.keep hb1).cell 1
        have y2 : w1.cell? ⟨w.heap.size + 1, 2, none⟩ = some (.slice A4 n4 c4) := (HBA.out.keep hb1).cell 2
        have z0 : w1.cell? ⟨w.heap.size + 1 + 1, 0, none⟩ = some (.int .i64 k.1) := (HBK.out.keep hb1).cell 0
        have z1 : w1.cell? ⟨w.heap.size + 1 + 1, 1, none⟩ = some (.slice A5 k.2.length c5) := (HBK.out.keep hb1).cell 1
        clear hb1
        go_wp2_with fail
        refine (HIW.out _ hb2).mono ?_
        rintro e w2 ⟨rfl, hb3⟩
        go_wp2_with fail
        go_ret
        exact ⟨by rw [HF.out]; rfl, below_trans hb2 hb3⟩
      | true =>
        rw [hw] at HIW
        have hlt := shortLen_lt g a x y
        obtain ⟨⟨hx0, hx1⟩, ⟨hy0, hy1⟩, hgo, ha⟩ := cntOk_iff.1 (shortLen_ok (show 0 ≤ shortLen g a x y by omega))
        obtain ⟨L, hL⟩ : ∃ L, L = k.2.length := ⟨_, rfl⟩
        have HF := Lib.hid (show R = (rankTo g a y k L L : Nat) by rw [hR]; exact rankSh_yes (by rw [hL]; exact hlen.symm) hL.symm hw)
        rw [← hlen, ← hL] at HSL hlt
        rw [← hL] at HB0 HBG HBA HBK HIW ⊢
        have HWA := Lib.hid (fun i (hi : i < L) => wit_arc hw (show i < k.2.length by rw [← hL]; exact hi))
        have hwo := (isWit_parts hw).2.1
        have HNL := Lib.hid (fun i (hi : i ≤ L) => (nodeAt_lt hwo (show i ≤ k.2.length by rw [← hL]; exact hi)).2)
        have HGO := Lib.hid hgo
        have HA := Lib.hid ha
        have HSO := Lib.hid (startOk ha)
        have hn5 := (grOk_iff.1 hgo).n5
        obtain ⟨x, rfl⟩ := Int.eq_ofNat_of_zero_le hx0
        have hk0 : nodeAt g k 0 = x := by
          have h1 := (isWit_parts hw).1
          have h2 := (nodeAt_lt hwo (Nat.zero_le _)).1
          rw [show (nodesL g k)[0]? = some k.1 from rfl] at h2
          injection h2 with h2
          omega
        have HK0 := Lib.hid hk0
        have HL := Lib.hid hL
        have hxl : x < g.vals.length := by omega
        have hln : ¬ (L : Int) < 0 := by omega
        have hll : ((L : Int) != (L : Int)) = false := by simp
        clear hneg hlen hw hgo ha hx0 hx1 hy0 hy1 hR hwo hk0 hL
        go_enter Try.func23, Try.ntmps23
        go_wp2_with fail
        refine (HSL.out _ HB0.out).mono ?_
        rintro e w1 ⟨rfl, hb1⟩
        have hb2 := below_trans HB0.out hb1
        have x0 : w1.cell? ⟨w.heap.size, 0, none⟩ = some (.slice A1 n1 c1) := (HBG.out.keep hb1).cell 0
        have x1 : w1.cell? ⟨w.heap.size, 1, none⟩ = some (.slice A2 n2 c2) := (HBG.out.keep hb1).cell 1
        have y0 : w1.cell? ⟨w.heap.size + 1, 0, none⟩ = some (.int .i64 a.start) := (HBA.out.keep hb1).cell 0
        have y1 : w1.cell? ⟨w.heap.size + 1, 1, none⟩ = some (.slice A3 n3 c3) := (HBA.out.keep hb1).cell 1
        have y2 : w1.cell? ⟨w.heap.size + 1, 2, none⟩ = some (.slice A4 n4 c4) := (HBA.out.keep hb1).cell 2
        have z0 : w1.cell? ⟨w.heap.size + 1 + 1, 0, none⟩ = some (.int .i64 k.1) := (HBK.out.keep hb1).cell 0
        have z1 : w1.cell? ⟨w.heap.size + 1 + 1, 1, none⟩ = some (.slice A5 L c5) := (HBK.out.keep hb1).cell 1
        have HBG1 := Lib.hid (HBG.out.keep hb1)
        have HBA1 := Lib.hid (HBA.out.keep hb1)
        have HBK1 := Lib.hid (HBK.out.keep hb1)
        clear hb1
        go_wp2_with fail
        refine (HIW.out _ hb2).mono ?_
        rintro e w2 ⟨rfl, hb3⟩
        have HB4 := Lib.hid (below_trans hb2 hb3)
        have hb4 := below_trans hb2 hb3
        clear x0 x1 y0 y1 y2 z0 z1
        have x0 : w2.cell? ⟨w.heap.size, 0, none⟩ = some (.slice A1 n1 c1) := (HBG1.out.keep hb3).cell 0
        have x1 : w2.cell? ⟨w.heap.size, 1, none⟩ = some (.slice A2 n2 c2) := (HBG1.out.keep hb3).cell 1
        have y0 : w2.cell? ⟨w.heap.size + 1, 0, none⟩ = some (.int .i64 a.start) := (HBA1.out.keep hb3).cell 0
        have y1 : w2.cell? ⟨w.heap.size + 1, 1, none⟩ = some (.slice A3 n3 c3) := (HBA1.out.keep hb3).cell 1
        have y2 : w2.cell? ⟨w.heap.size + 1, 2, none⟩ = some (.slice A4 n4 c4) := (HBA1.out.keep hb3).cell 2
        have z0 : w2.cell? ⟨w.heap.size + 1 + 1, 0, none⟩ = some (.int .i64 k.1) := (HBK1.out.keep hb3).cell 0
        have z1 : w2.cell? ⟨w.heap.size + 1 + 1, 1, none⟩ = some (.slice A5 L c5) := (HBK1.out.keep hb3).cell 1
        have HBK2 := Lib.hid (HBK1.out.keep hb3)
        clear hb2 hb3
        go_wp2_with fail
        refine (newCounter_any _ _ g a y _ (HGV.out.keep hb4) (HAV.out.keep hb4) HGO.out HA.out).mono ?_
        rintro e w3 ⟨bC, bM, rfl, hbM, hctr, hmem, hb5⟩
        have hwM : w.heap.size ≤ bM := Nat.le_trans hb4.size hbM
        have lbMw := hmem.lt
        have HB5 := Lib.hid (below_trans hb4 hb5)
        have HBK3 := Lib.hid (HBK2.out.keep hb5)
        have HC3 := Lib.hid hctr
        have HM3 := Lib.hid hmem
        clear hb4 hb5 x0 x1 y0 y1 y2 z0 z1 hctr hmem
        go_wp2_with fail
        refine (start_any g a y HA.out bC bM x L _ HC3.out (by omega) (by omega)).mono ?_
        rintro e w4 ⟨rfl, hb6⟩
        have hbQ := (Below.refl w4.heap.size w4).alloc (Nat.le_refl _) (.cells #[.int .i64 (x : Int), .int .i64 (bit a.start.toNat : Nat), .int .i64 (L : Int)] 82)
        have HBQ := Lib.hid (Blk.new w4 82 #[.int .i64 (x : Int), .int .i64 (bit a.start.toNat : Nat), .int .i64 (L : Int)] w4.heap.size rfl)
        have hb7 := below_trans hb6 hbQ
        have HC4 := Lib.hid (HC3.out.keep hb6)
        have HM4 := Lib.hid (HM3.out.keep hb7)
        have HB7 := Lib.hid (below_trans HB5.out hb6)
        have HO4 := Lib.hid (Only.of_below hbQ bM (bM + 1))
        have HBK4 := Lib.hid (HBK3.out.keep hb7)
        have hs6 := hb6.size
        have z1 : (w4.alloc (.cells #[.int .i64 (x : Int), .int .i64 (bit a.start.toNat : Nat), .int .i64 (L : Int)] 82)).cell? ⟨w.heap.size + 1 + 1, 1, none⟩ = some (.slice A5 L c5) := HBK4.out.cell 1
        have lk4 := HBK4.out.lt
        have hbK3 := HBK3.out.lt
        clear hb6 hbQ hb7
        obtain ⟨bP, hbP⟩ : ∃ bP, bP = w4.heap.size := ⟨_, rfl⟩
        go_wp2_with fail
        rw [← hbP] at HBQ ⊢
        obtain ⟨w5, hw5⟩ : ∃ w5, w5 = w4.alloc (.cells #[.int .i64 (x : Int), .int .i64 (bit a.start.toNat : Nat), .int .i64 (L : Int)] 82) := ⟨_, rfl⟩
        rw [← hw5] at HBQ HM4 HO4 HBK4 lk4 z1 ⊢
        have hPge : w4.heap.size ≤ bP := by omega
        have hPw : w.heap.size + 1 + 1 < bP := by omega
        clear hw5 z1 hbP
        go_loopw [14, 54] (fun rr ii wr => ∃ (d : Nat) (M : List Plc), d ≤ L ∧ rr = .int .i64 (rankTo g a y k L d : Nat) ∧ ii = .int .i64 (d : Int) ∧ Blk wr bP 82 #[.int .i64 (nodeAt g k d : Int), .int .i64 (setAt g a k d : Int), .int .i64 ((L - d : Nat) : Int)] ∧ Only bM (bM + 1) w4 wr ∧ Mem g a y wr bM M) (fun _ ii _ => L - (intOf ii).toNat)
        case atStart => exact ⟨0, [], Nat.zero_le _, rfl, rfl, by rw [HK0.out]; exact HBQ.out, HO4.out, HM4.out⟩
        case round =>
          clear HBQ HM4 HO4 HBK4
          obtain ⟨d, M, hd, rfl, rfl, hbp, hon4, hme⟩ := hrel
          have hct := HC4.out.only hon4
          have hbl := HB7.out.trans (hon4.below hwM HB7.out.size)
          have HON4 := Lib.hid hon4
          by_cases hlt : d < L
          · have hdi : (d : Int) < (L : Int) := by omega
            obtain ⟨⟨sid, sinv⟩, hks, ⟨p0, hp0, hp0s⟩, hps⟩ := HWA.out d hlt
            obtain ⟨b5, o5, rfl, hb5, s0, s1⟩ := HC5.out.st hks
            simp only at s0 s1
            have s0 := kcell hbl s0
            have s1 := kcell hbl s1
            have hxd := HNL.out d hd
            have hsd := setAt_lt HA.out k d (g := g)
            have hs4 := lt12 HA.out hsd
            obtain ⟨f, hf⟩ : ∃ f, L - d = f + 1 := ⟨L - d - 1, by omega⟩
            have hrk : rankTo g a y k L (d + 1) = overK (cwAt g a y f (nodeAt g k d) (setAt g a k d)) (arcsOf g (nodeAt g k d : Int)) (sid, sinv) (rankTo g a y k L d) := by
              rw [rankTo, show L - (d + 1) = f by omega, List.getD_eq_getElem?_getD, hks]; rfl
            have hr6 := rankTo_le g a y k L d
            have HRK := Lib.hid hrk
            have HPS := Lib.hid hps
            have HEX := Lib.hid (show ∃ p ∈ arcsOf g (nodeAt g k d : Int), p.1 = ((sid, sinv) : St) from ⟨p0, hp0, hp0s⟩)
            have HSD := Lib.hid hsd
            obtain ⟨x', hx'⟩ : ∃ x', x' = nodeAt g k d := ⟨_, rfl⟩
            obtain ⟨s', hs'⟩ : ∃ s', s' = setAt g a k d := ⟨_, rfl⟩
            obtain ⟨r0, hr0⟩ : ∃ r0, r0 = rankTo g a y k L d := ⟨_, rfl⟩
            have HR0 := Lib.hid hr0
            rw [← hx', ← hs', ← hr0] at HRK
            rw [← hx', ← hs'] at HPS hbp
            rw [← hx'] at HEX hxd
            rw [← hs'] at HSD hs4
            rw [← hr0] at hr6 ⊢
            have HN1 := Lib.hid (show L - (d + 1) = f by omega)
            have HN2 := Lib.hid (HNL.out (d + 1) hlt)
            have HNX := Lib.hid (fun (l : Nat) (t sid : Int) (sinv : Bool) (W : World) (hW : Ctr g a y W bC bM) (hl : l < 9) => next_any g a y HGO.out HA.out bC bM x' s' f l t sid sinv W hW hxd HSD.out (by omega) hl)
            rw [← hf] at HNX
            have e0 : wr.cell? ⟨bP, 0, none⟩ = some (.int .i64 (x' : Int)) := hbp.cell 0
            have e1 : wr.cell? ⟨bP, 1, none⟩ = some (.int .i64 (s' : Int)) := hbp.cell 1
            have e2 : wr.cell? ⟨bP, 2, none⟩ = some (.int .i64 ((L - d : Nat) : Int)) := hbp.cell 2
            obtain ⟨LD, hLD⟩ : ∃ LD, LD = L - d := ⟨_, rfl⟩
            rw [← hLD] at HNX e2 hf hbp
            have HLD := Lib.hid hLD
            have hfl : f < 60 := by omega
            clear hf
            obtain ⟨B, lo, hi, A1, A2, A3, A4, A6, c1, c2, c3, c4, c6, hbk, hgv, hav, hlv, h5, h6, h7, h8, h9⟩ := hct
            have hctr : Ctr g a y wr bC bM := ⟨B, lo, hi, A1, A2, A3, A4, A6, c1, c2, c3, c4, c6, hbk, hgv, hav, hlv, h5, h6, h7, h8, h9⟩
            have HC1 := Lib.hid hctr
            have z6 : wr.cell? ⟨bC, 6, none⟩ = some (.slice A6 g.vals.length c6) := hbk.cell 6
            have lC := hbk.lt
            obtain ⟨b6, o6, A7, c7, q1, q2, q3, d5, q5, q6, q7, -⟩ := hlv.row h7 (i := x') (xs := arcsOf g (x' : Int)) (by simp [hxd])
            subst q1
            have hb6 : b6 < wr.heap.size := by omega
            have hal := arcs_len (grOk_iff.1 HGO.out) (x' : Int)
            have hxx : (x' : Int) < (g.vals.length : Int) := by omega
            have HI7 := Lib.hid q7
            have hb5w : b5 < wr.heap.size := World.block_lt_of_cell? _ _ s0
            have lP := hbp.lt
            have HBP := Lib.hid hbp
            have HMM := Lib.hid hme
            have HBL := Lib.hid hbl
            have hszr := hbl.size
            have lM := hme.lt
            obtain ⟨wo, hwo⟩ : ∃ wo : World, wo = wr := ⟨_, rfl⟩
            rw [← hwo] at HON4 HC1 HI7 HBP HMM HBL s0 s1 e0 e1 e2 z6 d5 lC hb6 hb5w lP lM h7 hszr ⊢
            clear hwo hbk hgv hav hlv h8 hbp hbl hme hctr hon4 hks hp0 hp0s hps hrk hsd hx' hs' hr0 hLD
            have lP1 : bP < wo.heap.size + 1 := by omega
            have lC1 : bC < wo.heap.size + 1 := by omega
            have lb61 : b6 < wo.heap.size + 1 := by omega
            have HBSt := Lib.hid (Blk.new wo 96 #[.int .i64 sid, .bool sinv] wo.heap.size rfl)
            have HBN := Lib.hid ((Below.refl wo.heap.size wo).alloc (Nat.le_refl _) (.cells #[.int .i64 sid, .bool sinv] 96))
            go_upto_region 10 with fail
            refine wp_region_ext_lit (by kernel_rfl) (by kernel_rfl) ?_
            repeat (go_big_quiet_step (fail))
            refine wpQuiet_nil ?_
            intro _ hw'
            obtain ⟨u2, hw''⟩ := hw'
            subst hw''
            have hbU := ext_below (wo.alloc (.cells #[.int .i64 sid, .bool sinv] 96)) u2
            have HBS6 := Lib.hid (HBSt.out.keep hbU)
            have HB6 := Lib.hid (below_trans HBN.out hbU)
            obtain ⟨w6, hw6⟩ : ∃ w6, w6 = ext (wo.alloc (.cells #[.int .i64 sid, .bool sinv] 96)) u2 := ⟨_, rfl⟩
            rw [← hw6] at HBS6 HB6 ⊢
            have hs6w := HB6.out.size
            have lS6 := HBS6.out.lt
            clear hw6 hbU HBSt HBN e0 e1 e2 s0 s1 z6 d5
            go_wp2_with fail
            go_loopw [14, 67] (fun rr ii wi => ∃ (i : Nat) (M2 : List Plc), i ≤ (arcsOf g (x' : Int)).length ∧ rr = .int .i64 (passK (cwAt g a y f x' s') ((arcsOf g (x' : Int)).take i) r0 : Nat) ∧ ii = .int .i64 (i : Int) ∧ (∀ j q, j < i → (arcsOf g (x' : Int))[j]? = some q → q.1 ≠ ((sid, sinv) : St)) ∧ Only bM (bM + 1) w6 wi ∧ Mem g a y wi bM M2) (fun _ ii _ => (arcsOf g (x' : Int)).length - (intOf ii).toNat)
            case atStart => exact ⟨0, M, Nat.zero_le _, rfl, rfl, fun j q hj => by omega, Only.refl _ _ _, HMM.out.keep HB6.out⟩
            case round =>
              obtain ⟨i, M2, hi, rfl, rfl, hno, hon, hmm⟩ := hrel
              by_cases hli : i < (arcsOf g (x' : Int)).length
              · have hyi : (arcsOf g (x' : Int))[i]? = some (arcsOf g (x' : Int))[i] := List.getElem?_eq_getElem hli
                have hym := List.getElem_mem hli
                generalize (arcsOf g (x' : Int))[i] = p at hyi hym
                have hyr := arc_range (grOk_iff.1 HGO.out) hym
                have HPP := Lib.hid (HPS.out p hym)
                have HOV := Lib.hid (fun (h : p.1 = ((sid, sinv) : St)) => overK_here (k := cwAt g a y f x' s') (r := r0) hyi h hno)
                have HNP := Lib.hid (fun (h : p.1 ≠ ((sid, sinv) : St)) j q (hj : j < i + 1) (hq : (arcsOf g (x' : Int))[j]? = some q) => show q.1 ≠ ((sid, sinv) : St) from by
                  rcases Nat.lt_or_ge j i with h1 | h1
                  · exact hno j q h1 hq
                  · obtain rfl : j = i := by omega
                    rw [hyi] at hq
                    injection hq with hq
                    rw [← hq]; exact h)
                have HSC := Lib.hid (passK_succ (k := cwAt g a y f x' s') (r := r0) hyi)
                have hple := passK_le (cwAt g a y f x' s') ((arcsOf g (x' : Int)).take i) r0 hr6
                obtain ⟨⟨sid2, sinv2⟩, l, t⟩ := p
                simp only at hyr
                obtain ⟨l, rfl⟩ := Int.eq_ofNat_of_zero_le hyr.1.1
                obtain ⟨t, rfl⟩ := Int.eq_ofNat_of_zero_le hyr.2.1
                obtain ⟨b7, o7, rfl, hb7l, hb7, k0, k1, k2, k3⟩ := HI7.out.arc hyi
                simp only at k0 k1 k2 k3
                have hb7M : b7 < bM ∨ bM + 1 ≤ b7 := by omega
                have hb7o : b7 < w6.heap.size := by omega
                have k0 := ocell hon (kcell HB6.out k0) hb7o hb7M
                have k1 := ocell hon (kcell HB6.out k1) hb7o hb7M
                have k2 := ocell hon (kcell HB6.out k2) hb7o hb7M
                have k3 := ocell hon (kcell HB6.out k3) hb7o hb7M
                have hszi := hon.size
                have hbpi := (HBP.out.keep HB6.out).only hon (by omega)
                have e0 : wr.cell? ⟨bP, 0, none⟩ = some (.int .i64 (x' : Int)) := hbpi.cell 0
                have e1 : wr.cell? ⟨bP, 1, none⟩ = some (.int .i64 (s' : Int)) := hbpi.cell 1
                have e2 : wr.cell? ⟨bP, 2, none⟩ = some (.int .i64 (LD : Int)) := hbpi.cell 2
                have HBPI := Lib.hid hbpi
                have hbsi := HBS6.out.only hon (by omega)
                have HBSI := Lib.hid hbsi
                have lSi := hbsi.lt
                have lPi := hbpi.lt
                have hKA : cwAt g a y f x' s' ((sid2, sinv2), (l : Int), (t : Int)) = cw g a y f t (aft a s' (valAt g x') l) := by rw [cwAt]; simp
                rw [hKA] at HSC
                simp only [Int.toNat_natCast] at HPP
                have hAF := aft_lt HA.out s' (valAt g x') l
                have hcl2 := cw_le g a y f t (aft a s' (valAt g x') l)
                have HNC := Lib.hid (fun (W : World) (hW : Ctr g a y W bC bM) => HNX.out l (t : Int) sid2 sinv2 W hW (by omega))
                have HRC := Lib.hid (fun (W : World) (h1 : Ctr g a y W bC bM) (h2 : Mem g a y W bM M2) => count_any g a y HGO.out HA.out bC bM f t (aft a s' (valAt g x') l) M2 W h1 h2 (by omega) hAF (by omega))
                obtain ⟨CC, hCC⟩ : ∃ CC, CC = cw g a y f t (aft a s' (valAt g x') l) := ⟨_, rfl⟩
                rw [← hCC] at hcl2 HRC HSC
                generalize aft a s' (valAt g x') l = AF at *
                have hii : (i : Int) < ((arcsOf g (x' : Int)).length : Int) := by omega
                have HON2 := Lib.hid hon
                have HMM2 := Lib.hid hmm
                have hAF4 : AF < 4096 := lt12 HA.out hAF
                obtain ⟨bb, hbb⟩ : ∃ bb, bb = decide (((sid2, sinv2) : St) = (sid, sinv)) := ⟨_, rfl⟩
                have HBB := Lib.hid hbb
                have HEQ := Lib.hid (fun w => eqlSt (sid2, sinv2) (sid, sinv) w)
                simp only at HEQ
                rw [← hbb] at HEQ
                have hmw := hmm.lt
                clear hyi hym hno hCC hon hmm hKA hbpi hbsi hbb hAF
                generalize passK (cwAt g a y f x' s') ((arcsOf g (x' : Int)).take i) r0 = m1 at *
                have hbE : Below wr.heap.size wr (wr.alloc (.cells #[.int .i64 sid2, .bool sinv2, .int .i64 (l : Int), .int .i64 (t : Int)] 104)) := (Below.refl _ _).alloc (Nat.le_refl _) _
                have a0 : (wr.alloc (.cells #[.int .i64 sid2, .bool sinv2, .int .i64 (l : Int), .int .i64 (t : Int)] 104)).cell? ⟨wr.heap.size, 0, none⟩ = some (.int .i64 sid2) := by simp
                have a1 : (wr.alloc (.cells #[.int .i64 sid2, .bool sinv2, .int .i64 (l : Int), .int .i64 (t : Int)] 104)).cell? ⟨wr.heap.size, 1, none⟩ = some (.bool sinv2) := by simp
                go_wp2_with fail
                refine (HNC.out _ (((HC1.out.keep HB6.out).only HON2.out).keep hbE)).mono ?_
                rintro en w3 ⟨rfl, hb3⟩
                have hbQ : Below w3.heap.size w3 (w3.alloc (.cells #[.int .i64 (t : Int), .int .i64 (AF : Int), .int .i64 (f : Int)] 82)) := (Below.refl _ _).alloc (Nat.le_refl _) _
                have hbEQ := below_trans hbE (below_trans hb3 hbQ)
                have hb3Q := below_trans hb3 hbQ
                have hsE : wr.heap.size < w3.heap.size := by have := hb3.size; simp at this; omega
                have q0 : (w3.alloc (.cells #[.int .i64 (t : Int), .int .i64 (AF : Int), .int .i64 (f : Int)] 82)).cell? ⟨w3.heap.size, 0, none⟩ = some (.int .i64 (t : Int)) := by simp
                have q1 : (w3.alloc (.cells #[.int .i64 (t : Int), .int .i64 (AF : Int), .int .i64 (f : Int)] 82)).cell? ⟨w3.heap.size, 1, none⟩ = some (.int .i64 (AF : Int)) := by simp
                have q2 : (w3.alloc (.cells #[.int .i64 (t : Int), .int .i64 (AF : Int), .int .i64 (f : Int)] 82)).cell? ⟨w3.heap.size, 2, none⟩ = some (.int .i64 (f : Int)) := by simp
                have lQ : w3.heap.size < (w3.alloc (.cells #[.int .i64 (t : Int), .int .i64 (AF : Int), .int .i64 (f : Int)] 82)).heap.size := by simp
                have a0 := kcell hb3Q a0
                have a1 := kcell hb3Q a1
                have HCq := Lib.hid (((HC1.out.keep HB6.out).only HON2.out).keep hbEQ)
                have HMq := Lib.hid (HMM2.out.keep hbEQ)
                have HOq := Lib.hid (HON2.out.trans (Only.of_below hbEQ bM (bM + 1)))
                have HBPq := Lib.hid (HBPI.out.keep hbEQ)
                have hbsq := HBSI.out.keep hbEQ
                have t0 : (w3.alloc (.cells #[.int .i64 (t : Int), .int .i64 (AF : Int), .int .i64 (f : Int)] 82)).cell? ⟨wo.heap.size, 0, none⟩ = some (.int .i64 sid) := hbsq.cell 0
                have t1 : (w3.alloc (.cells #[.int .i64 (t : Int), .int .i64 (AF : Int), .int .i64 (f : Int)] 82)).cell? ⟨wo.heap.size, 1, none⟩ = some (.bool sinv) := hbsq.cell 1
                have hsEq : wr.heap.size < (w3.alloc (.cells #[.int .i64 (t : Int), .int .i64 (AF : Int), .int .i64 (f : Int)] 82)).heap.size := by omega
                clear hb3 hbQ hbEQ hb3Q hbE k0 k1 k2 k3 e0 e1 e2 hbsq
                cases bb with
                | true =>
                  have heq := HEQ.out
                  have hse : ((sid2, sinv2) : St) = (sid, sinv) := of_decide_eq_true HBB.out.symm
                  have HRE := Lib.hid (HOV.out hse)
                  have HPE := Lib.hid (HPP.out hse)
                  have hbp := HBPq.out
                  have z0 : (w3.alloc (.cells #[.int .i64 (t : Int), .int .i64 (AF : Int), .int .i64 (f : Int)] 82)).cell? ⟨bP, 0, none⟩ = some (.int .i64 (x' : Int)) := hbp.cell 0
                  have z1 : (w3.alloc (.cells #[.int .i64 (t : Int), .int .i64 (AF : Int), .int .i64 (f : Int)] 82)).cell? ⟨bP, 1, none⟩ = some (.int .i64 (s' : Int)) := hbp.cell 1
                  have z2 : (w3.alloc (.cells #[.int .i64 (t : Int), .int .i64 (AF : Int), .int .i64 (f : Int)] 82)).cell? ⟨bP, 2, none⟩ = some (.int .i64 (LD : Int)) := hbp.cell 2
                  have f0 := hbp.frozen 0
                  have f1 := hbp.frozen 1
                  have f2 := hbp.frozen 2
                  have l8 := hbp.lt
                  have HB8 := Lib.hid (hbp.set3 (.int .i64 (t : Int)) (.int .i64 (AF : Int)) (.int .i64 (f : Int)))
                  have HO8 := Lib.hid (only_set3 (HON4.out.trans ((Only.of_below HB6.out bM (bM + 1)).trans HOq.out)) (show w4.heap.size ≤ bP by omega) (.int .i64 (t : Int)) (.int .i64 (AF : Int)) (.int .i64 (f : Int)))
                  have HM8 := Lib.hid (HMq.out.at_ (set3_block (w3.alloc (.cells #[.int .i64 (t : Int), .int .i64 (AF : Int), .int .i64 (f : Int)] 82)) bP (.int .i64 (t : Int)) (.int .i64 (AF : Int)) (.int .i64 (f : Int)) bM (by omega)))
                  have HRK1 := Lib.hid (HRK.out.trans HRE.out)
                  clear hbp
                  go_wp2_with fail
                  go_roundw
                  case rel => exact ⟨d + 1, M2, hlt, by rw [HRK1.out], by go_num, by rw [← HPE.out.1, ← HPE.out.2.1, HN1.out]; exact HB8.out, HO8.out, HM8.out⟩
                  case measure => simp [intOf]; omega
                | false =>
                  have heq := HEQ.out
                  have hse : ((sid2, sinv2) : St) ≠ (sid, sinv) := of_decide_eq_false HBB.out.symm
                  have HNQ := Lib.hid (HNP.out hse)
                  go_wp2_with fail
                  refine (HRC.out _ HCq.out HMq.out).mono ?_
                  rintro en w4 ⟨rfl, hon4, M4, hm4, hmo4⟩
                  have HO4 := Lib.hid (HOq.out.trans hon4)
                  have HM4 := Lib.hid hm4
                  clear hon4 hm4 hmo4 t0 t1 a0 a1 q0 q1 q2 heq
                  go_wp2_with fail
                  go_roundw
                  case rel => exact ⟨i + 1, M4, by omega, by rw [HSC.out]; exact congrArg (Value.int IntKind.i64) (by split <;> omega), by go_num, HNQ.out, HO4.out, HM4.out⟩
                  case measure => simp [intOf]; omega
              · obtain rfl : i = (arcsOf g (x' : Int)).length := by omega
                obtain ⟨p, hp, hps⟩ := HEX.out
                obtain ⟨j, hj, he⟩ := List.getElem_of_mem hp
                exact absurd hps (hno j p hj (by rw [List.getElem?_eq_getElem hj, he]))
          · obtain rfl : d = L := by omega
            have HBL := Lib.hid hbl
            clear hbp hct hme hbl hon4
            go_wp2_with fail
            go_ret
            exact ⟨by rw [HF.out]; rfl, HBL.out⟩
    · have HF := Lib.hid (show R = -1 by rw [hR]; exact rankSh_no (.inr (.inl hlen)))
      generalize shortLen g a x y = SL at *
      have hlen1 : ((k.2.length : Int) != SL) = true := by simpa using hlen
      clear hR
      go_enter Try.func23, Try.ntmps23
      go_wp2_with fail
      refine (HSL.out _ HB0.out).mono ?_
      rintro e w1 ⟨rfl, hb1⟩
      have hb2 := below_trans HB0.out hb1
      have x0 : w1.cell? ⟨w.heap.size, 0, none⟩ = some (.slice A1 n1 c1) := (HBG.out.keep hb1).cell 0
      have x1 : w1.cell? ⟨w.heap.size, 1, none⟩ = some (.slice A2 n2 c2) := (HBG.out.keep hb1).cell 1
      have y0 : w1.cell? ⟨w.heap.size + 1, 0, none⟩ = some (.int .i64 a.start) := (HBA.out.keep hb1).cell 0
      have y1 : w1.cell? ⟨w.heap.size + 1, 1, none⟩ = some (.slice A3 n3 c3) := (HBA.out.keep hb1).cell 1
      have y2 : w1.cell? ⟨w.heap.size + 1, 2, none⟩ = some (.slice A4 n4 c4) := (HBA.out.keep hb1).cell 2
      have z0 : w1.cell? ⟨w.heap.size + 1 + 1, 0, none⟩ = some (.int .i64 k.1) := (HBK.out.keep hb1).cell 0
      have z1 : w1.cell? ⟨w.heap.size + 1 + 1, 1, none⟩ = some (.slice A5 k.2.length c5) := (HBK.out.keep hb1).cell 1
      clear hb1
      go_wp2_with fail
      go_ret
      exact ⟨by rw [HF.out]; rfl, hb2⟩
end Go.Proofs.Ytlhpcknpjdeebaa

/- The reference's RankShortest. -/
namespace Go.Proofs.Ytlhpcknpjdeebaa
set_option linter.unusedVariables false
set_option linter.unusedSimpArgs false
open Go.ChangeShapes Go.WideShapes Go.ChangeAt Go.RowKit
attribute [local go_sem] ext_cell ext_frozen ext_lt ext_lt1 ext_lt2 ext_lt3 ltn2 ltn3 ltn13 lts1 lts2 lts3

theorem rankShS_yes {g : Gr} {a : Au} {x y : Int} {k : Wk} {L : Nat} (h : shortLen g a x y = (L : Int)) (hl : k.2.length = L) (hw : isWit g a x y k = true) : rankSh g a x y k = (rankTo g a y k L L : Nat) := by
  rw [rankSh, if_pos, hl]
  rw [hw, h, hl]; simp
theorem rankShS_no {g : Gr} {a : Au} {x y : Int} {k : Wk} (h : shortLen g a x y < 0 ∨ ¬ (k.2.length : Int) = shortLen g a x y ∨ isWit g a x y k = false) : rankSh g a x y k = -1 := by
  rw [rankSh, if_neg]
  simp only [Bool.and_eq_true, decide_eq_true_eq]
  rintro ⟨⟨h1, h2⟩, h3⟩
  rcases h with h | h | h
  · omega
  · exact h h2
  · rw [h] at h3; cases h3
/-- the row of a witness' node: where its step stands, and what is passed over before -/
theorem rankRow {g : Gr} {a : Au} {x0 y : Int} {k : Wk} {k0 : Key} {n d i r : Nat} (hw : isWit g a x0 y k = true) (hd : d < k.2.length) (hn : d < n) (hr : r ≤ 1000000) (hk : (layN g a k0 d)[i]? = some (nodeAt g k d, setAt g a k d)) :
    ∃ st j i2, k.2[d]? = some st ∧ (layT g a k0 d i)[j]? = some (st, i2) ∧ (∀ j' q, j' < j → (layT g a k0 d i)[j']? = some q → q.1 ≠ st) ∧ passK (fun e : St × Nat => layC g a y k0 n (d + 1) e.2) ((layT g a k0 d i).take j) r = overK (cwAt g a y (n - (d + 1)) (nodeAt g k d) (setAt g a k d)) (arcsOf g (nodeAt g k d : Int)) st r ∧ (layN g a k0 (d + 1))[i2]? = some (nodeAt g k (d + 1), setAt g a k (d + 1)) := by
  obtain ⟨s, hs, hex, hps⟩ := wit_arc hw hd
  obtain ⟨j, i2, p, e1, e2, e3, e4, e5, e6⟩ := (layT_row hk).over (C := layC g a y k0 n (d + 1)) (y := y) (f := n - (d + 1)) (fun j q hq => layC_at hq) (st := s)
    (fun p hp he => by have h := hps p hp he; rw [h.2.1]; exact h.2.2) hex r hr
  have h := hps p e4 e5
  rw [h.1, h.2.1, Int.toNat_natCast] at e6
  exact ⟨s, j, i2, hs, e1, e2, e3, e6⟩
theorem first_uniq {T : List (St × Nat)} {st : St} {j j0 i2 : Nat} {e : St × Nat} (h : T[j]? = some e) (he : e.1 = st) (hno : ∀ r q, r < j → T[r]? = some q → q.1 ≠ st) (h0 : T[j0]? = some (st, i2)) (hno0 : ∀ r q, r < j0 → T[r]? = some q → q.1 ≠ st) : j = j0 ∧ e.2 = i2 := by
  have hj : j = j0 := by
    rcases Nat.lt_trichotomy j j0 with h1 | h1 | h1
    · exact absurd he (hno0 j e h1 h)
    · exact h1
    · exact absurd rfl (hno j0 _ h1 h0)
  subst hj
  rw [h] at h0
  injection h0 with h0
  exact ⟨rfl, by rw [h0]⟩
set_option maxHeartbeats 8000000 in
set_option maxRecDepth 100000 in
theorem specRankShortest (vg va vk : Value) (g : Gr) (a : Au) (x y : Int) (k : Wk) (w : World) (hgv : GrV 0 w.heap.size w vg g) (hav : AuV 0 w.heap.size w va a) (hkv : WkV 0 w.heap.size w vk k) :
    Calls Try.prog 21 #[vg, va, .int .i64 x, .int .i64 y, vk] w fun e w' => e = .returned (.int .i64 (rankSh g a x y k)) ∧ Below w.heap.size w w' := by
  have hgv0 := hgv
  have hav0 := hav
  have hkv0 := hkv
  obtain ⟨A1, n1, c1, A2, n2, c2, rfl⟩ := hgv.shape
  obtain ⟨A3, n3, c3, A4, n4, c4, rfl⟩ := hav.shape
  obtain ⟨A5, c5, rfl, hl5, hm5, hC5⟩ := hkv.form
  have hb0 : Below w.heap.size w (((w.alloc (.cells #[.slice A1 n1 c1, .slice A2 n2 c2] 39)).alloc (.cells #[.int .i64 a.start, .slice A3 n3 c3, .slice A4 n4 c4] 41)).alloc (.cells #[.int .i64 k.1, .slice A5 k.2.length c5] 34)) := (((Below.refl _ _).alloc (Nat.le_refl _) _).alloc (by simp) _).alloc (by simp; omega) _
  have hbG := ((Blk.new w 39 #[.slice A1 n1 c1, .slice A2 n2 c2] w.heap.size rfl).alloc (.cells #[.int .i64 a.start, .slice A3 n3 c3, .slice A4 n4 c4] 41)).alloc (.cells #[.int .i64 k.1, .slice A5 k.2.length c5] 34)
  have hbA := (Blk.new (w.alloc (.cells #[.slice A1 n1 c1, .slice A2 n2 c2] 39)) 41 #[.int .i64 a.start, .slice A3 n3 c3, .slice A4 n4 c4] (w.heap.size + 1) (by simp)).alloc (.cells #[.int .i64 k.1, .slice A5 k.2.length c5] 34)
  have hbK := Blk.new ((w.alloc (.cells #[.slice A1 n1 c1, .slice A2 n2 c2] 39)).alloc (.cells #[.int .i64 a.start, .slice A3 n3 c3, .slice A4 n4 c4] 41)) 34 #[.int .i64 k.1, .slice A5 k.2.length c5] (w.heap.size + 1 + 1) (by simp)
  have HBG := Lib.hid hbG
  have HBA := Lib.hid hbA
  have HBK := Lib.hid hbK
  have HGV := Lib.hid hgv0
  have HAV := Lib.hid hav0
  have HKV := Lib.hid hkv0
  have HC5 := Lib.hid hC5
  have HB0 := Lib.hid hb0
  have HSL := Lib.hid (fun (W : World) (hW : Below w.heap.size w W) => specShortestLength _ _ g a x y W (HGV.out.keep hW) (HAV.out.keep hW))
  have HIW := Lib.hid (fun (W : World) (hW : Below w.heap.size w W) => specIsWitness _ _ _ g a x y k W (HGV.out.keep hW) (HAV.out.keep hW) (HKV.out.keep hW))
  obtain ⟨R, hR⟩ : ∃ R, R = rankSh g a x y k := ⟨_, rfl⟩
  rw [← hR]
  clear hgv hav hkv hgv0 hav0 hkv0 hb0 hbG hbA hbK hC5
  by_cases hneg : shortLen g a x y < 0
  · have HF := Lib.hid (show R = -1 by rw [hR]; exact rankShS_no (.inl hneg))
    generalize shortLen g a x y = SL at *
    clear hR
    go_enter Try.func21, Try.ntmps21
    go_wp2_with fail
    refine (HSL.out _ HB0.out).mono ?_
    rintro e w1 ⟨rfl, hb1⟩
    have hb2 := below_trans HB0.out hb1
    go_wp2_with fail
    go_ret
    exact ⟨by rw [HF.out]; rfl, hb2⟩
  · by_cases hlen : (k.2.length : Int) = shortLen g a x y
    · cases hw : isWit g a x y k with
      | false =>
        have HF := Lib.hid (show R = -1 by rw [hR]; exact rankShS_no (.inr (.inr hw)))
        rw [hw] at HIW
        rw [← hlen] at HSL
        have hneg1 : ¬ (k.2.length : Int) < 0 := by omega
        clear hR hneg hlen hw
        go_enter Try.func21, Try.ntmps21
        go_wp2_with fail
        refine (HSL.out _ HB0.out).mono ?_
        rintro e w1 ⟨rfl, hb1⟩
        have hb2 := below_trans HB0.out hb1
        have x0 : w1.cell? ⟨w.heap.size, 0, none⟩ = some (.slice A1 n1 c1) := (HBG.out.keep hb1).cell 0
        have x1 : w1.cell? ⟨w.heap.size, 1, none⟩ = some (.slice A2 n2 c2) := (HBG.out.keep hb1).cell 1
        have y0 : w1.cell? ⟨w.heap.size + 1, 0, none⟩ = some (.int .i64 a.start) := (HBA.out.keep hb1).cell 0
        have y1 : w1.cell? ⟨w.heap.size + 1, 1, none⟩ = some (.slice A3 n3 c3) := (HBA.out.keep hb1).cell 1
        have y2 : w1.cell? ⟨w.heap.size + 1, 2, none⟩ = some (.slice A4 n4 c4) := (HBA.out.keep hb1).cell 2
        have z0 : w1.cell? ⟨w.heap.size + 1 + 1, 0, none⟩ = some (.int .i64 k.1) := (HBK.out.keep hb1).cell 0
        have z1 : w1.cell? ⟨w.heap.size + 1 + 1, 1, none⟩ = some (.slice A5 k.2.length c5) := (HBK.out.keep hb1).cell 1
        clear hb1
        go_wp2_with fail
        refine (HIW.out _ hb2).mono ?_
        rintro e w2 ⟨rfl, hb3⟩
        go_wp2_with fail
        go_ret
        exact ⟨by rw [HF.out]; rfl, below_trans hb2 hb3⟩
      | true =>
        rw [hw] at HIW
        have hlt := shortLen_lt g a x y
        obtain ⟨⟨hx0, hx1⟩, ⟨hy0, hy1⟩, hgo, ha⟩ := cntOk_iff.1 (shortLen_ok (show 0 ≤ shortLen g a x y by omega))
        obtain ⟨L, hL⟩ : ∃ L, L = k.2.length := ⟨_, rfl⟩
        have HF := Lib.hid (show R = (rankTo g a y k L L : Nat) by rw [hR]; exact rankShS_yes (by rw [hL]; exact hlen.symm) hL.symm hw)
        rw [← hlen, ← hL] at HSL hlt
        rw [← hL] at HB0 HBG HBA HBK HIW ⊢
        have HRW := Lib.hid (fun (k0 : Key) d i r (hd : d < L) (hr : r ≤ 1000000) (hk : (layN g a k0 d)[i]? = some (nodeAt g k d, setAt g a k d)) => rankRow (n := L) hw (show d < k.2.length by rw [← hL]; exact hd) hd hr hk)
        have hwo := (isWit_parts hw).2.1
        have HGO := Lib.hid hgo
        have HA := Lib.hid ha
        obtain ⟨x, rfl⟩ := Int.eq_ofNat_of_zero_le hx0
        have hk0 : nodeAt g k 0 = x := by
          have h1 := (isWit_parts hw).1
          have h2 := (nodeAt_lt hwo (Nat.zero_le _)).1
          rw [show (nodesL g k)[0]? = some k.1 from rfl] at h2
          injection h2 with h2
          omega
        have HK0 := Lib.hid (show ((x, bit a.start.toNat) : Key) = (nodeAt g k 0, setAt g a k 0) by rw [hk0]; rfl)
        have hxl : x < g.vals.length := by omega
        have HLO := Lib.hid (fun d => (layN_ok (grOk_iff.1 hgo) ha (show ((x, bit a.start.toNat) : Key).1 < g.vals.length ∧ ((x, bit a.start.toNat) : Key).2 < 2 ^ a.accept.length from ⟨hxl, startOk ha⟩) d).len (grOk_iff.1 hgo) ha)
        have hln : ¬ (L : Int) < 0 := by omega
        have hll : ((L : Int) != (L : Int)) = false := by simp
        clear hneg hlen hw hgo ha hx0 hx1 hy0 hy1 hR hwo hk0 hL
        go_enter Try.func21, Try.ntmps21
        go_wp2_with fail
        refine (HSL.out _ HB0.out).mono ?_
        rintro e w1 ⟨rfl, hb1⟩
        have hb2 := below_trans HB0.out hb1
        have x0 : w1.cell? ⟨w.heap.size, 0, none⟩ = some (.slice A1 n1 c1) := (HBG.out.keep hb1).cell 0
        have x1 : w1.cell? ⟨w.heap.size, 1, none⟩ = some (.slice A2 n2 c2) := (HBG.out.keep hb1).cell 1
        have y0 : w1.cell? ⟨w.heap.size + 1, 0, none⟩ = some (.int .i64 a.start) := (HBA.out.keep hb1).cell 0
        have y1 : w1.cell? ⟨w.heap.size + 1, 1, none⟩ = some (.slice A3 n3 c3) := (HBA.out.keep hb1).cell 1
        have y2 : w1.cell? ⟨w.heap.size + 1, 2, none⟩ = some (.slice A4 n4 c4) := (HBA.out.keep hb1).cell 2
        have z0 : w1.cell? ⟨w.heap.size + 1 + 1, 0, none⟩ = some (.int .i64 k.1) := (HBK.out.keep hb1).cell 0
        have z1 : w1.cell? ⟨w.heap.size + 1 + 1, 1, none⟩ = some (.slice A5 L c5) := (HBK.out.keep hb1).cell 1
        have HBG1 := Lib.hid (HBG.out.keep hb1)
        have HBA1 := Lib.hid (HBA.out.keep hb1)
        have HBK1 := Lib.hid (HBK.out.keep hb1)
        clear hb1
        go_wp2_with fail
        refine (HIW.out _ hb2).mono ?_
        rintro e w2 ⟨rfl, hb3⟩
        have hb4 := below_trans hb2 hb3
        clear x0 x1 y0 y1 y2 z0 z1
        have x0 : w2.cell? ⟨w.heap.size, 0, none⟩ = some (.slice A1 n1 c1) := (HBG1.out.keep hb3).cell 0
        have x1 : w2.cell? ⟨w.heap.size, 1, none⟩ = some (.slice A2 n2 c2) := (HBG1.out.keep hb3).cell 1
        have y0 : w2.cell? ⟨w.heap.size + 1, 0, none⟩ = some (.int .i64 a.start) := (HBA1.out.keep hb3).cell 0
        have y1 : w2.cell? ⟨w.heap.size + 1, 1, none⟩ = some (.slice A3 n3 c3) := (HBA1.out.keep hb3).cell 1
        have y2 : w2.cell? ⟨w.heap.size + 1, 2, none⟩ = some (.slice A4 n4 c4) := (HBA1.out.keep hb3).cell 2
        have z0 : w2.cell? ⟨w.heap.size + 1 + 1, 0, none⟩ = some (.int .i64 k.1) := (HBK1.out.keep hb3).cell 0
        have z1 : w2.cell? ⟨w.heap.size + 1 + 1, 1, none⟩ = some (.slice A5 L c5) := (HBK1.out.keep hb3).cell 1
        have HBK2 := Lib.hid (HBK1.out.keep hb3)
        clear hb2 hb3
        go_wp2_with fail
        refine (l19Layers_any _ _ g a x y L _ (HGV.out.keep hb4) (HAV.out.keep hb4) HGO.out HA.out hxl (by omega)).mono ?_
        rintro e w3 ⟨v3, rfl, hlv, hb5⟩
        obtain ⟨bL, oL, cL, rfl, lb, hrows⟩ := hlv.rows
        have HROWS := Lib.hid hrows
        have HB5 := Lib.hid (below_trans hb4 hb5)
        have HBK3 := Lib.hid (HBK2.out.keep hb5)
        have lk3 := HBK3.out.lt
        have hs3 := HB5.out.size
        clear hb4 hb5 x0 x1 y0 y1 y2 z0 z1 hlv hrows
        go_wp2_with fail
        go_loopw [13, 14, 15] (fun aa rr dd wr => ∃ (d i : Nat), aa = .int .i64 (i : Int) ∧ rr = .int .i64 (rankTo g a y k L d : Nat) ∧ dd = .int .i64 (d : Int) ∧ d ≤ L ∧ (layN g a (x, bit a.start.toNat) d)[i]? = some (nodeAt g k d, setAt g a k d) ∧ Below w3.heap.size w3 wr) (fun _ _ dd _ => L - (intOf dd).toNat)
        case atStart => exact ⟨0, 0, rfl, rfl, rfl, Nat.zero_le _, by rw [← HK0.out]; rfl, Below.refl _ _⟩
        case round =>
          obtain ⟨d, i, rfl, rfl, rfl, hd, hk, hbel⟩ := hrel
          have hszw := hbel.size
          by_cases hdn : d < L
          · have hr6 := rankTo_le g a y k L d
            obtain ⟨⟨sid, sinv⟩, j0, i2, hks, hT0, hno0, hpass, hk2⟩ := HRW.out _ d i _ hdn hr6 hk
            have hrk : rankTo g a y k L (d + 1) = overK (cwAt g a y (L - (d + 1)) (nodeAt g k d) (setAt g a k d)) (arcsOf g (nodeAt g k d : Int)) (sid, sinv) (rankTo g a y k L d) := by
              rw [rankTo, List.getD_eq_getElem?_getD, hks]; rfl
            rw [← hrk] at hpass
            obtain ⟨b5, o5, rfl, hb5, s0, s1⟩ := HC5.out.st hks
            simp only at s0 s1
            have hbelw := HB5.out.trans (hbel.mono hs3)
            have S0 := Lib.hid (kcell hbelw s0)
            have S1 := Lib.hid (kcell hbelw s1)
            obtain ⟨gd, cd, zs, h0, hld⟩ := HROWS.out d hd
            obtain ⟨gd1, cd1, zs1, h1, hl1⟩ := HROWS.out (d + 1) hdn
            obtain ⟨z, hz, hz1, hz2, hz3, hz4, d0, d1, d2, d3, d4⟩ := hld.get hk
            rw [layTn_lt hdn] at hz4
            have hTin := (layT_row hk).to_lt
            have hTl := Nat.le_trans (layT_row hk).len (arcs_len (grOk_iff.1 HGO.out) _)
            obtain ⟨F, hF⟩ : ∃ F : Nat → Nat, F = layC g a y (x, bit a.start.toNat) L (d + 1) := ⟨_, rfl⟩
            obtain ⟨TT, hTT⟩ : ∃ TT, TT = layT g a (x, bit a.start.toNat) d i := ⟨_, rfl⟩
            rw [← hF] at hpass hl1
            rw [← hTT] at hpass hT0 hno0 hz4 hTin hTl
            have hFle : ∀ j, F j ≤ 1000000 := fun j => by rw [hF]; exact layC_le ..
            have hosv := hz4.1
            have hotv := hz4.2
            have hil := (List.getElem?_eq_some_iff.1 hk).1
            have hl20 := HLO.out d
            have hl21 := HLO.out (d + 1)
            obtain ⟨L0, hL0⟩ : ∃ L0, L0 = (layN g a (x, bit a.start.toNat) d).length := ⟨_, rfl⟩
            obtain ⟨L1, hL1⟩ : ∃ L1, L1 = (layN g a (x, bit a.start.toNat) (d + 1)).length := ⟨_, rfl⟩
            rw [← hL0] at h0 hil hl20
            rw [← hL1] at h1 hTin hl21
            have HL1 := Lib.hid hl1
            have HL1E := Lib.hid hL1
            have HK2 := Lib.hid hk2
            have HTIN := Lib.hid hTin
            have HFLE := Lib.hid hFle
            have HT0 := Lib.hid hT0
            have HNO0 := Lib.hid hno0
            obtain ⟨r0, hr0⟩ : ∃ r0, r0 = rankTo g a y k L d := ⟨_, rfl⟩
            obtain ⟨RD1, hRD1⟩ : ∃ RD1, RD1 = rankTo g a y k L (d + 1) := ⟨_, rfl⟩
            have HRD1 := Lib.hid hRD1
            rw [← hr0] at hpass hr6 ⊢
            rw [← hRD1] at hpass
            have HPASS := Lib.hid hpass
            clear hz hz1 hz2 hz3 hz4 hl1 hL0 hL1 hF hTT hT0 hno0 hpass hk2 hTin hFle hk hr0 hRD1 hrk hks s0 s1 hbelw
            obtain ⟨z0, z1, z2, sv, tv⟩ := z
            simp only at d3 d4 hosv hotv
            obtain ⟨As, cs, rfl, hls, hms, hCs⟩ := hosv.form cSt_len
            obtain ⟨At, ct, rfl, hlt1, hmt, hCt⟩ := hotv.form cN_len
            rw [List.length_map] at hls hosv hlt1 hotv d3 d4
            have HCS := Lib.hid hCs
            have HCT := Lib.hid hCt
            have hgd := hld.lt
            have h0 := kcell hbel h0
            have d0 := kcell hbel d0
            have d1 := kcell hbel d1
            have d2 := kcell hbel d2
            have d3 := kcell hbel d3
            have d4 := kcell hbel d4
            have HH1 := Lib.hid h1
            have HBKR := Lib.hid (HBK3.out.keep hbel)
            clear hCs hCt hosv hotv hld h1
            have hd1 : (d : Int) < (L : Int) + 1 := by omega
            have hdn2 : (d : Int) < (L : Int) := by omega
            have hii : (i : Int) < (L0 : Int) := by omega
            obtain ⟨KX, hKX⟩ : ∃ KX, KX = nodeAt g k d := ⟨_, rfl⟩
            obtain ⟨KS, hKS⟩ : ∃ KS, KS = setAt g a k d := ⟨_, rfl⟩
            rw [← hKX] at d0
            rw [← hKS] at d1
            obtain ⟨CZ, hCZ⟩ : ∃ CZ, CZ = layC g a y (x, bit a.start.toNat) L d i := ⟨_, rfl⟩
            rw [← hCZ] at d2
            obtain ⟨wo, hwo⟩ : ∃ wo : World, wo = wr := ⟨_, rfl⟩
            rw [← hwo] at hbel hszw h0 d0 d1 d2 d3 d4 HBKR S0 S1 ⊢
            have HBEL := Lib.hid hbel
            clear hwo hbel hKX hKS hCZ
            go_wp2_with fail
            have NODE : True := trivial
            obtain ⟨wz, hwz⟩ : ∃ wz, wz = wo.alloc (.cells #[.int .i64 (KX : Int), .int .i64 (KS : Int), .int .i64 (CZ : Int), .slice As TT.length cs, .slice At TT.length ct] 72) := ⟨_, rfl⟩
            have hbz : Blk wz wo.heap.size 72 #[.int .i64 (KX : Int), .int .i64 (KS : Int), .int .i64 (CZ : Int), .slice As TT.length cs, .slice At TT.length ct] := by rw [hwz]; exact Blk.new _ _ _ _ rfl
            have hbY : Below wo.heap.size wo wz := by rw [hwz]; exact (Below.refl _ _).alloc (Nat.le_refl _) _
            rw [← hwz]
            have HBZ := Lib.hid hbz
            have HBY := Lib.hid hbY
            have hszz := hbz.lt
            clear hwz hbz hbY h0 d0 d1 d2 d3 d4
            go_loopw [13, 14, 17, 18] (fun aa rr bb kk wi => ∃ (j a1 r1 : Nat) (b : Bool), aa = .int .i64 (a1 : Int) ∧ rr = .int .i64 (r1 : Int) ∧ bb = .bool b ∧ kk = .int .i64 (j : Int) ∧ j ≤ TT.length ∧ r1 ≤ 1000000 ∧
                Blk wi wo.heap.size 72 #[.int .i64 (KX : Int), .int .i64 (KS : Int), .int .i64 (CZ : Int), .slice As TT.length cs, .slice At TT.length ct] ∧ Below wo.heap.size wo wi ∧
                (b = false → a1 = i ∧ r1 = passK (fun e : St × Nat => F e.2) (TT.take j) r0 ∧ ∀ r q, r < j → TT[r]? = some q → q.1 ≠ ((sid, sinv) : St)) ∧
                (b = true → r1 = RD1 ∧ a1 = i2)) (fun _ _ _ kk _ => TT.length - (intOf kk).toNat)
            case atStart => exact ⟨0, i, r0, false, rfl, rfl, rfl, rfl, Nat.zero_le _, hr6, HBZ.out, HBY.out, fun _ => ⟨rfl, rfl, fun r q hr => by omega⟩, fun h => by cases h⟩
            case round =>
              clear HBZ HBY
              obtain ⟨j, a1, r1, b, rfl, rfl, rfl, rfl, hj, hr1, hbz, hby, hno, hyes⟩ := hrel
              have c4 : wr.cell? ⟨wo.heap.size, 4, none⟩ = some (.slice At TT.length ct) := hbz.cell 4
              have HBZ := Lib.hid hbz
              have HBY := Lib.hid hby
              cases b with
              | true =>
                obtain ⟨rfl, rfl⟩ := hyes rfl
                clear hno hyes hbz hby
                by_cases hlj : j < TT.length
                · have hjj : (j : Int) < (TT.length : Int) := by omega
                  go_wp2_with fail
                  go_roundw
                  case rel => exact ⟨d + 1, a1, rfl, by rw [← HRD1.out], by go_num, by omega, HK2.out, HBEL.out.trans (HBY.out.mono hszw)⟩
                  case measure => simp [intOf]; omega
                · have hjj : ¬ (j : Int) < (TT.length : Int) := by omega
                  go_wp2_with fail
                  go_roundw
                  case rel => exact ⟨d + 1, a1, rfl, by rw [← HRD1.out], by go_num, by omega, HK2.out, HBEL.out.trans (HBY.out.mono hszw)⟩
                  case measure => simp [intOf]; omega
              | false =>
                obtain ⟨rfl, hr1e, hnn⟩ := hno rfl
                clear hyes hno
                have hno := hnn
                clear hnn
                by_cases hlj : j < TT.length
                · have hej : TT[j]? = some TT[j] := List.getElem?_eq_getElem hlj
                  have hin := HTIN.out _ (List.getElem_mem hlj)
                  generalize TT[j] = e at hej hin
                  have HFU := Lib.hid (fun (h : e.1 = ((sid, sinv) : St)) => first_uniq hej h hno HT0.out HNO0.out)
                  have HPS := Lib.hid (passK_succ (k := fun e : St × Nat => F e.2) (r := r0) hej)
                  have HNP := Lib.hid (fun (h : e.1 ≠ ((sid, sinv) : St)) r q (hr : r < j + 1) (hq : TT[r]? = some q) => show q.1 ≠ ((sid, sinv) : St) from by
                    rcases Nat.lt_or_ge r j with h1 | h1
                    · exact hno r q h1 hq
                    · obtain rfl : r = j := by omega
                      rw [hej] at hq
                      injection hq with hq
                      rw [← hq]; exact h)
                  obtain ⟨⟨sid2, sinv2⟩, e2⟩ := e
                  simp only at hin
                  obtain ⟨b8, o8, rfl, hb8, t0⟩ := HCT.out.nat (i := j) (x := e2) (by rw [List.getElem?_map, hej]; rfl)
                  obtain ⟨b9, o9, rfl, hb9, u0, u1⟩ := HCS.out.st (i := j) (e := (sid2, sinv2)) (by rw [List.getElem?_map, hej]; rfl)
                  have hk1 : (layN g a (x, bit a.start.toNat) (d + 1))[e2]? = some (layN g a (x, bit a.start.toNat) (d + 1))[e2] := List.getElem?_eq_getElem (by rw [← HL1E.out]; exact hin)
                  obtain ⟨zq, -, -, -, -, -, -, -, q2, -, -⟩ := HL1.out.get hk1
                  have hbelr := HBEL.out.trans (hby.mono hszw)
                  have t0 := kcell hbelr t0
                  have u0 := kcell hbelr u0
                  have u1 := kcell hbelr u1
                  have q2 := kcell hbelr q2
                  have h1 := kcell hbelr HH1.out
                  have s0 := kcell hby S0.out
                  have s1 := kcell hby S1.out
                  have hbkr := HBKR.out.keep hby
                  have z1 : wr.cell? ⟨w.heap.size + 1 + 1, 1, none⟩ = some (.slice (some ⟨b5, o5, none⟩) L c5) := hbkr.cell 1
                  have c3 : wr.cell? ⟨wo.heap.size, 3, none⟩ = some (.slice (some ⟨b9, o9, none⟩) TT.length cs) := hbz.cell 3
                  have hC1 := HFLE.out e2
                  obtain ⟨D1, hD1⟩ : ∃ D1, D1 = d + 1 := ⟨_, rfl⟩
                  rw [← hD1] at h1
                  have hq1 : (D1 : Int) < (L : Int) + 1 := by omega
                  have hqz : (d : Int) + 1 = (D1 : Int) := by omega
                  have hjj : (j : Int) < (TT.length : Int) := by omega
                  have hee : (e2 : Int) < (L1 : Int) := by omega
                  obtain ⟨C1, hC1e⟩ : ∃ C1, C1 = F e2 := ⟨_, rfl⟩
                  have HC1 := Lib.hid hC1e
                  rw [← hC1e] at q2 hC1
                  have HPS2 := Lib.hid (show passK (fun e : St × Nat => F e.2) (TT.take (j + 1)) r0 = min 1000000 (r1 + C1) by rw [HPS.out, hr1e, hC1e])
                  have HRRI := Lib.hid (fun (h : j = j0) => show r1 = RD1 by rw [hr1e, h]; exact HPASS.out)
                  obtain ⟨bb, hbb⟩ : ∃ bb, bb = decide (((sid2, sinv2) : St) = (sid, sinv)) := ⟨_, rfl⟩
                  have HBB := Lib.hid hbb
                  have HEQ := Lib.hid (fun w => eqlSt (sid2, sinv2) (sid, sinv) w)
                  simp only at HEQ
                  rw [← hbb] at HEQ
                  clear hno hej hk1 hC1e hr1e hbb hbz HPS hin
                  obtain ⟨wq, hwq⟩ : ∃ wq : World, wq = wr := ⟨_, rfl⟩
                  rw [← hwq] at HBZ HBY hby hbelr hbkr c3 c4 t0 s0 s1 u0 u1 q2 h1 z1 ⊢
                  clear hwq hbelr hbkr hby
                  have lq1 : bL < wq.heap.size := World.block_lt_of_cell? _ _ h1
                  have lq2 : wo.heap.size < wq.heap.size := World.block_lt_of_cell? _ _ c4
                  have lq3 : b8 < wq.heap.size := World.block_lt_of_cell? _ _ t0
                  have lq4 : gd1 < wq.heap.size := World.block_lt_of_cell? _ _ q2
                  have lq5 : b9 < wq.heap.size := World.block_lt_of_cell? _ _ u0
                  have lq6 : b5 < wq.heap.size := World.block_lt_of_cell? _ _ s0
                  have lq7 : w.heap.size + 1 + 1 < wq.heap.size := World.block_lt_of_cell? _ _ z1
                  have qw : IntKind.i64.wrap ((d : Int) + 1) = (D1 : Int) := by rw [IntWalk.i64_in _ (by omega), hqz]
                  have qs : IntKind.i64.wrap ((r1 : Int) + (C1 : Int)) = (r1 : Int) + (C1 : Int) := IntWalk.i64_in _ (by omega)
                  have HQW := Lib.hid qw
                  have HQS := Lib.hid qs
                  clear hD1 hqz qw qs
                  cases bb with
                  | true =>
                    have heq := HEQ.out
                    have hse : ((sid2, sinv2) : St) = (sid, sinv) := of_decide_eq_true HBB.out.symm
                    have HFE := Lib.hid (HFU.out hse)
                    have HRR := Lib.hid (HRRI.out HFE.out.1)
                    go_upto_region 15 with fail
                    refine wp_region_ext_lit (by kernel_rfl) (by kernel_rfl) ?_
                    repeat (go_big_quiet_step (fail))
                    refine wpQuiet_nil ?_
                    intro _ hw'
                    obtain ⟨u2, hw''⟩ := hw'
                    subst hw''
                    have hbU := ext_below wq u2
                    go_wp2_with fail
                    go_roundw
                    case rel => exact ⟨j + 1, e2, r1, true, rfl, rfl, rfl, by go_num, by omega, hr1, HBZ.out.keep hbU, HBY.out.trans (hbU.mono (Nat.le_of_lt lq2)), (fun h => by cases h), fun _ => ⟨HRR.out, HFE.out.2⟩⟩
                    case measure => simp [intOf]; omega
                  | false =>
                    have heq := HEQ.out
                    have hse : ((sid2, sinv2) : St) ≠ (sid, sinv) := of_decide_eq_false HBB.out.symm
                    have HNQ := Lib.hid (HNP.out hse)
                    go_upto_region 15 with fail
                    refine wp_region_ext_lit (by kernel_rfl) (by kernel_rfl) ?_
                    repeat (go_big_quiet_step (fail))
                    refine wpQuiet_nil ?_
                    intro _ hw'
                    obtain ⟨u2, hw''⟩ := hw'
                    subst hw''
                    have hbU := ext_below wq u2
                    have qw := HQW.out
                    have qs := HQS.out
                    go_upto_region 18 with fail
                    refine wp_region_ext_lit (by kernel_rfl) (by kernel_rfl) ?_
                    repeat (go_big_quiet_step (fail))
                    refine wpQuiet_nil ?_
                    intro _ hw'
                    obtain ⟨u3, hw''⟩ := hw'
                    subst hw''
                    have hbV := below_trans hbU (ext_below (ext wq u2) u3)
                    have hmi : (min 1000000 ((r1 : Int) + (C1 : Int))) = ((min 1000000 (r1 + C1) : Nat) : Int) := by omega
                    have hmi2 : (if (r1 : Int) + (C1 : Int) < 1000000 then (r1 : Int) + (C1 : Int) else 1000000) = ((min 1000000 (r1 + C1) : Nat) : Int) := by split <;> omega
                    first | rw [hmi] | rw [hmi2] | skip
                    clear hmi hmi2 qw qs
                    go_wp2_with fail
                    go_roundw
                    case rel => exact ⟨j + 1, a1, min 1000000 (r1 + C1), false, rfl, rfl, rfl, by go_num, by omega, Nat.min_le_left _ _, HBZ.out.keep hbV, HBY.out.trans (hbV.mono (Nat.le_of_lt lq2)), fun _ => ⟨rfl, HPS2.out.symm, fun r q hr hq => HNQ.out r q hr hq⟩, fun h => by cases h⟩
                    case measure => simp [intOf]; omega
                · obtain rfl : j = TT.length := by omega
                  exact absurd rfl (hno j0 _ (List.getElem?_eq_some_iff.1 HT0.out).1 HT0.out)
          · obtain rfl : d = L := by omega
            have HBL := Lib.hid (HB5.out.trans (hbel.mono hs3))
            have hdd : ¬ (d : Int) < (d : Int) := by omega
            clear hk hbel
            go_wp2_with fail
            go_ret
            exact ⟨by rw [HF.out]; rfl, HBL.out⟩
    · have HF := Lib.hid (show R = -1 by rw [hR]; exact rankShS_no (.inr (.inl hlen)))
      generalize shortLen g a x y = SL at *
      have hlen1 : ((k.2.length : Int) != SL) = true := by simpa using hlen
      clear hR
      go_enter Try.func21, Try.ntmps21
      go_wp2_with fail
      refine (HSL.out _ HB0.out).mono ?_
      rintro e w1 ⟨rfl, hb1⟩
      have hb2 := below_trans HB0.out hb1
      have x0 : w1.cell? ⟨w.heap.size, 0, none⟩ = some (.slice A1 n1 c1) := (HBG.out.keep hb1).cell 0
      have x1 : w1.cell? ⟨w.heap.size, 1, none⟩ = some (.slice A2 n2 c2) := (HBG.out.keep hb1).cell 1
      have y0 : w1.cell? ⟨w.heap.size + 1, 0, none⟩ = some (.int .i64 a.start) := (HBA.out.keep hb1).cell 0
      have y1 : w1.cell? ⟨w.heap.size + 1, 1, none⟩ = some (.slice A3 n3 c3) := (HBA.out.keep hb1).cell 1
      have y2 : w1.cell? ⟨w.heap.size + 1, 2, none⟩ = some (.slice A4 n4 c4) := (HBA.out.keep hb1).cell 2
      have z0 : w1.cell? ⟨w.heap.size + 1 + 1, 0, none⟩ = some (.int .i64 k.1) := (HBK.out.keep hb1).cell 0
      have z1 : w1.cell? ⟨w.heap.size + 1 + 1, 1, none⟩ = some (.slice A5 k.2.length c5) := (HBK.out.keep hb1).cell 1
      clear hb1
      go_wp2_with fail
      go_ret
      exact ⟨by rw [HF.out]; rfl, hb2⟩
end Go.Proofs.Ytlhpcknpjdeebaa

