/- 'laws.FnExactLeastWitness' returns true for all arguments, without any condition: the program's LeastWitness equals the reference's, leaves its arguments alone, and its result shares no memory with them or with another result. -/
import Derived.Test.YtlhpcknpjdeebaaPartLOMEEABO
import Derived.Test.YtlhpcknpjdeebaaPartHCBNMMEI
import Derived.Test.YtlhpcknpjdeebaaPartJMJACPBF
import Derived.Test.YtlhpcknpjdeebaaPartAMIECJDA
import Derived.Test.YtlhpcknpjdeebaaPartPCJDHOHD
import Derived.Deep.RegionHeld3
import Derived.Test.YtlhpcknpjdeebaaPartINLHGKFA
namespace Go.Proofs.Ytlhpcknpjdeebaa.fnExactLeastWitness
set_option linter.unusedVariables false
set_option linter.unusedSimpArgs false
open Go.ChangeShapes Go.WideShapes Go.ChangeAt Go.RowKit
attribute [local go_sem] ext_cell ext_frozen ext_lt ext_lt1 ext_lt2 ext_lt3 ltn2 ltn3 ltn13 lts1 lts2 lts3

set_option maxRecDepth 100000 in
set_option maxHeartbeats 8000000 in
theorem walk (w : World) (v0 : Value) (g : Gr) (hv0 : GrV 0 w.heap.size w v0 g) (v1 : Value) (a : Au) (hv1 : AuV 0 w.heap.size w v1 a) (x : Int) (wf2 : (Lit.int .i64 x).wf = true) (y : Int) (wf3 : (Lit.int .i64 y).wf = true) :
    Calls Try.prog 5 #[v0, v1, .int .i64 x, .int .i64 y] w fun e w' => e = .returned (.bool true) ∧ Below w.heap.size w w' := by
  have hlen : (lstShort g a x y).1.2.length ≤ 1048576 := Nat.le_trans (lstShort_len g a x y) (by omega)
  have hvo0 := hv0
  obtain ⟨A0, n0, c0, B0, m0, d0, rfl⟩ := hv0.shape
  clear hv0
  have hvo1 := hv1
  obtain ⟨A1, n1, c1, B1, m1, d1, rfl⟩ := hv1.shape
  clear hv1
  clear wf2
  clear wf3
  have hb0 : Below w.heap.size w ((w.alloc (.cells #[.slice A0 n0 c0, .slice B0 m0 d0] 25)).alloc (.cells #[.int .i64 a.start, .slice A1 n1 c1, .slice B1 m1 d1] 29)) := ((Below.refl _ _).alloc (Nat.le_refl _) _).alloc (by simp <;> omega) _
  have HSP := Lib.hid (fun (va vb : Value) (W : World) h0 h1 => specLeastWitness va vb g a x y W h0 h1)
  have HIM := Lib.hid (fun (va vb : Value) (W : World) h0 h1 => implLeastWitness va vb g a x y W h0 h1)
  generalize (lstShort g a x y).1 = V at *
  generalize (lstShort g a x y).2 = C at *
  go_enter Try.func5, Try.ntmps5
  go_wp2_with fail
  refine (szGraph_any _ g 1048576 _ (hvo0.keep hb0) (by omega) (by omega)).mono ?_
  rintro e ws0 ⟨rfl, hbn⟩
  have bl0 := ((Blk.new w _ _ w.heap.size rfl).alloc _).keep hbn
  have l0 := bl0.lt
  have y0_0 : ws0.cell? ⟨w.heap.size, 0, none⟩ = some (.slice A0 n0 c0) := bl0.cell 0
  have y0_1 : ws0.cell? ⟨w.heap.size, 1, none⟩ = some (.slice B0 m0 d0) := bl0.cell 1
  have bl1 := (Blk.new (w.alloc _) _ _ (w.heap.size + 1) (by simp)).keep hbn
  have l1 := bl1.lt
  have y1_0 : ws0.cell? ⟨w.heap.size + 1, 0, none⟩ = some (.int .i64 a.start) := bl1.cell 0
  have y1_1 : ws0.cell? ⟨w.heap.size + 1, 1, none⟩ = some (.slice A1 n1 c1) := bl1.cell 1
  have y1_2 : ws0.cell? ⟨w.heap.size + 1, 2, none⟩ = some (.slice B1 m1 d1) := bl1.cell 2
  have hb := below_trans hb0 hbn
  clear bl0 bl1 hb0 hbn
  by_cases hz : (szGr g 1048576) < 0
  · have hzd : decide ((szGr g 1048576) < 0) = true := by simpa using hz
    clear hz
    go_wp2_with fail
    go_ret
    exact ⟨rfl, hb⟩
  have hzd : decide ((szGr g 1048576) < 0) = false := by simpa using hz
  obtain ⟨ha0, hc0, hz0, hzm⟩ := szGr_le g 1048576 hz
  have ha0 : g.vals.length ≤ 1048576 := by omega
  have hc0 : g.edges.length ≤ 1048576 := by omega
  generalize (szGr g 1048576) = z0 at hzd hz0 hzm ⊢
  clear hz
  have hzm0 : z0 ≤ 1048576 := by omega
  have hz00 := hz0
  clear hz0 hzm
  go_wp2_with fail
  clear hzd
  refine (szAutomatonD_any _ a z0 _ (hvo1.keep hb) (by omega) (by omega)).mono ?_
  rintro e ws1 ⟨rfl, hbn⟩
  replace y0_0 := kcell hbn y0_0
  replace y0_1 := kcell hbn y0_1
  replace y1_0 := kcell hbn y1_0
  replace y1_1 := kcell hbn y1_1
  replace y1_2 := kcell hbn y1_2
  replace l0 := Nat.lt_of_lt_of_le l0 hbn.size
  replace l1 := Nat.lt_of_lt_of_le l1 hbn.size
  have z_ws1 := hbn.size
  replace hb := below_trans hb hbn
  clear hbn
  by_cases hz : (szAuD a z0) < 0
  · have hzd : decide ((szAuD a z0) < 0) = true := by simpa using hz
    clear hz
    go_wp2_with fail
    go_ret
    exact ⟨rfl, hb⟩
  have hzd : decide ((szAuD a z0) < 0) = false := by simpa using hz
  obtain ⟨ha1, hc1, hd1, hz0, hzm⟩ := szAuD_le a z0 (by omega) hz
  have he1 : sumLen a.next ≤ 1099511627776 := Nat.le_trans (sumLen_le a.next 1048576 hd1) (by omega)
  have HD1 := Lib.hid hd1
  clear hd1
  generalize (szAuD a z0) = z1 at hzd hz0 hzm ⊢
  clear hz
  have hzm1 : z1 ≤ 1048576 := by omega
  have hz01 := hz0
  clear hz0 hzm
  go_wp2_with fail
  clear hzd
  clear hzm1 hz01
  clear hzm0 hz00
  have zw : w.heap.size + 2 ≤ ws1.heap.size := by omega
  go_cut [10, 11] (fun p c wx => ∃ (b lo hi : Nat) (A : Option Addr) (n k : Nat), p = .pointer (some ⟨b, 0, none⟩) ∧ c = (.bool C) ∧ Blk wx b 34 #[.int .i64 V.1, .slice A n k] ∧ Own lo hi wx 96 cSt 2 (.slice A n k) V.2 ∧ (b < lo ∨ hi ≤ b) ∧ ws1.heap.size ≤ b ∧ ws1.heap.size ≤ lo ∧ hi ≤ wx.heap.size ∧ Below ws1.heap.size ws1 wx)
  case first =>
    have hp := (Below.refl ws1.heap.size ws1).drew
    refine F_start 12 (fun w' => w'.cell? ⟨w.heap.size, 0, none⟩ = some (.slice A0 n0 c0) ∧ w'.cell? ⟨w.heap.size, 1, none⟩ = some (.slice B0 m0 d0) ∧ w'.cell? ⟨w.heap.size + 1, 0, none⟩ = some (.int .i64 a.start) ∧ w'.cell? ⟨w.heap.size + 1, 1, none⟩ = some (.slice A1 n1 c1) ∧ w'.cell? ⟨w.heap.size + 1, 2, none⟩ = some (.slice B1 m1 d1)) (by kernel_rfl) (by exact ⟨y0_0, y0_1, y1_0, y1_1, y1_2⟩) (fun hS inv => ?_)
    refine F_take (i := 0) (v := ?_) rfl (by kernel_rfl) (by kernel_rfl) (by kernel_rfl) (fun _ _ _ h => h) inv (Or.inl ⟨by rfl, ?_⟩) (by assumption) (fun invn => ?_)
    rotate_left
    · (intro w hSw; (try dsimp only at hSw); go_simp; try with_reducible rfl)
    try simp only [List.getElem_toArray, List.getElem_cons_zero, List.getElem_cons_succ, Act.put, List.setIfInBounds_toArray, List.set_cons_zero, List.set_cons_succ]
    clear inv
    have inv := invn
    clear invn
    refine F_take (i := 2) (v := ?_) rfl (by kernel_rfl) (by kernel_rfl) (by kernel_rfl) (fun _ _ _ h => h) inv (Or.inl ⟨by rfl, ?_⟩) (by assumption) (fun invn => ?_)
    rotate_left
    · (intro w hSw; (try dsimp only at hSw); go_simp; try with_reducible rfl)
    try simp only [List.getElem_toArray, List.getElem_cons_zero, List.getElem_cons_succ, Act.put, List.setIfInBounds_toArray, List.set_cons_zero, List.set_cons_succ]
    clear inv
    have inv := invn
    clear invn
    refine F_take (i := 4) (v := ?_) rfl (by kernel_rfl) (by kernel_rfl) (by kernel_rfl) (fun _ _ _ h => h) inv (Or.inl ⟨by rfl, ?_⟩) (by assumption) (fun invn => ?_)
    rotate_left
    · (intro w hSw; (try dsimp only at hSw); go_simp; try with_reducible rfl)
    try simp only [List.getElem_toArray, List.getElem_cons_zero, List.getElem_cons_succ, Act.put, List.setIfInBounds_toArray, List.set_cons_zero, List.set_cons_succ]
    clear inv
    have inv := invn
    clear invn
    refine F_take (i := 5) (v := ?_) rfl (by kernel_rfl) (by kernel_rfl) (by kernel_rfl) (fun _ _ _ h => h) inv (Or.inl ⟨by rfl, ?_⟩) (by assumption) (fun invn => ?_)
    rotate_left
    · (intro w hSw; (try dsimp only at hSw); go_simp; try with_reducible rfl)
    try simp only [List.getElem_toArray, List.getElem_cons_zero, List.getElem_cons_succ, Act.put, List.setIfInBounds_toArray, List.set_cons_zero, List.set_cons_succ]
    clear inv
    have inv := invn
    clear invn
    refine F_two (i := 1) (j := 10) (by kernel_rfl) rfl rfl rfl rfl (by omega) inv (fun K hK => ?_) (fun K hK => ?_)
    all_goals (try simp only [List.getElem_toArray, List.getElem_cons_zero, List.getElem_cons_succ])
    · go_simp
      refine (toGraph_any _ g _ (hvo0.keep (below_trans hb hp)) ha0 hc0).mono ?_
      rintro e wc0a ⟨vc0a, rfl, hoc0a, hbc0a⟩
      have hp := below_trans hp hbc0a
      refine hK.out _ _ (kB5 hbc0a hS) (fun hSn invn => ?_)
      try simp only [List.getElem_toArray, List.getElem_cons_zero, List.getElem_cons_succ, Act.put, List.setIfInBounds_toArray, List.set_cons_zero, List.set_cons_succ]
      clear hK K inv hS
      have inv := invn
      have hS := hSn
      clear invn hSn
      refine F_two (i := 3) (j := 10) (by kernel_rfl) rfl rfl rfl rfl (by omega) inv (fun K hK => ?_) (fun K hK => ?_)
      all_goals (try simp only [List.getElem_toArray, List.getElem_cons_zero, List.getElem_cons_succ])
      · go_simp
        refine (toAutomaton_any _ a _ (hvo1.keep (below_trans hb hp)) ha1 hc1 HD1.out).mono ?_
        rintro e wc1a ⟨vc1a, rfl, hoc1a, hbc1a⟩
        have hp := below_trans hp hbc1a
        refine hK.out _ _ (kB5 hbc1a hS) (fun hSn invn => ?_)
        try simp only [List.getElem_toArray, List.getElem_cons_zero, List.getElem_cons_succ, Act.put, List.setIfInBounds_toArray, List.set_cons_zero, List.set_cons_succ]
        clear hK K inv hS
        have inv := invn
        have hS := hSn
        clear invn hSn
        refine F_two (i := 6) (j := 10) (by kernel_rfl) rfl rfl rfl rfl (by omega) inv (fun K hK => ?_) (fun K hK => ?_)
        all_goals (try simp only [List.getElem_toArray, List.getElem_cons_zero, List.getElem_cons_succ])
        · go_simp
          have hol := hp.size
          refine (HSP.out vc0a vc1a _ ((hoc0a.view.all (Nat.le_refl _)).keep hbc1a) (hoc1a.view.all (Nat.le_refl _))).mono ?_
          rintro e wra ⟨vr, rfl, ⟨ss, rfl, hor⟩, hbr⟩
          have hp := below_trans hp hbr
          obtain ⟨RA, RN, RC, rfl⟩ := hor.shape
          refine hK.out _ _ (kB5 hbr hS) (fun hSn invn => ?_)
          try simp only [List.getElem_toArray, List.getElem_cons_zero, List.getElem_cons_succ, Act.put, List.setIfInBounds_toArray, List.set_cons_zero, List.set_cons_succ]
          clear hK K inv hS
          have inv := invn
          have hS := hSn
          clear invn hSn
          refine F_take (i := 7) (v := ?_) rfl (by kernel_rfl) (by kernel_rfl) (by kernel_rfl) (fun _ _ _ h => h) inv (Or.inl ⟨by rfl, ?_⟩) (by assumption) (fun invn => ?_)
          rotate_left
          · (intro w hSw; (try dsimp only at hSw); go_simp; try with_reducible rfl)
          try simp only [List.getElem_toArray, List.getElem_cons_zero, List.getElem_cons_succ, Act.put, List.setIfInBounds_toArray, List.set_cons_zero, List.set_cons_succ]
          clear inv
          have inv := invn
          clear invn
          refine F_take (i := 8) (v := ?_) rfl (by kernel_rfl) (by kernel_rfl) (by kernel_rfl) (fun _ _ _ h => h) inv (Or.inl ⟨by rfl, ?_⟩) (by assumption) (fun invn => ?_)
          rotate_left
          · (intro w hSw; (try dsimp only at hSw); go_simp; try with_reducible rfl)
          try simp only [List.getElem_toArray, List.getElem_cons_zero, List.getElem_cons_succ, Act.put, List.setIfInBounds_toArray, List.set_cons_zero, List.set_cons_succ]
          clear inv
          have inv := invn
          clear invn
          refine F_take (i := 9) (v := ?_) rfl (by kernel_rfl) (by kernel_rfl) (by kernel_rfl) (fun _ _ _ h => h) inv (Or.inl ⟨by rfl, ?_⟩) (by assumption) (fun invn => ?_)
          rotate_left
          · (intro w hSw; (try dsimp only at hSw); go_simp; try with_reducible rfl)
          try simp only [List.getElem_toArray, List.getElem_cons_zero, List.getElem_cons_succ, Act.put, List.setIfInBounds_toArray, List.set_cons_zero, List.set_cons_succ]
          clear inv
          have inv := invn
          clear invn
          have hS0 := hS
          refine F_one (i := 10) (by kernel_rfl) rfl rfl (by omega) inv (fun K hK => ?_)
          try simp only [List.getElem_toArray, List.getElem_cons_zero, List.getElem_cons_succ]
          go_simp
          refine hK.out _ _ (kA5 _ hS) (fun hSn invn => ?_)
          try simp only [List.getElem_toArray, List.getElem_cons_zero, List.getElem_cons_succ, Act.put, List.setIfInBounds_toArray, List.set_cons_zero, List.set_cons_succ]
          clear hK K inv hS
          have inv := invn
          have hS := hSn
          clear invn hSn
          refine F_one (i := 11) (by kernel_rfl) rfl rfl (by omega) inv (fun K hK => ?_)
          try simp only [List.getElem_toArray, List.getElem_cons_zero, List.getElem_cons_succ]
          go_simp
          refine hK.out _ _ (kA5 _ hS0) (fun hSn invn => ?_)
          try simp only [List.getElem_toArray, List.getElem_cons_zero, List.getElem_cons_succ, Act.put, List.setIfInBounds_toArray, List.set_cons_zero, List.set_cons_succ]
          clear hK K inv hS
          have inv := invn
          have hS := hSn
          clear invn hSn
          refine F_last (i := 12) (by kernel_rfl) rfl rfl (by omega) (by kernel_rfl) (fun K hK => ?_)
          go_simp
          refine hK _ _ ?_
          clear hK K inv hS
          go_wp2_with fail
          go_meet
          have hal := (Below.refl wra.heap.size wra).alloc (Nat.le_refl _) (.cells #[.int .i64 V.1, .slice RA RN RC] 34)
          exact ⟨_, _, _, RA, RN, RC, rfl, rfl, Blk.new _ _ _ _ rfl, hor.below hal (Nat.le_refl _), .inr (Nat.le_refl _), hp.size, hol, hal.size, below_trans hp hal⟩
        · go_simp
          have hbz : Blk (wc1a.alloc (.cells #[.int .i64 0, .slice none 0 0] 34)) (wc1a.heap.size) 34 #[.int .i64 0, .slice none 0 0] := Blk.new _ _ _ _ rfl
          have hba2 := (Below.refl wc1a.heap.size wc1a).alloc (Nat.le_refl _) (.cells #[.int .i64 0, .slice none 0 0] 34)
          have hbl : ws1.heap.size ≤ wc1a.heap.size := hp.size
          have hp := below_trans hp hba2
          refine hK.out _ _ (kA5 _ hS) (fun hSn invn => ?_)
          try simp only [List.getElem_toArray, List.getElem_cons_zero, List.getElem_cons_succ, Act.put, List.setIfInBounds_toArray, List.set_cons_zero, List.set_cons_succ]
          clear hK K inv hS
          have inv := invn
          have hS := hSn
          clear invn hSn
          refine F_one (i := 6) (by kernel_rfl) rfl rfl (by omega) inv (fun K hK => ?_)
          try simp only [List.getElem_toArray, List.getElem_cons_zero, List.getElem_cons_succ]
          go_simp
          have hol := hp.size
          have hlo : wc1a.heap.size + 1 ≤ _ := hbz.lt
          refine (HSP.out vc0a vc1a _ (((hoc0a.view.all (Nat.le_refl _)).keep hbc1a).keep hba2) ((hoc1a.view.all (Nat.le_refl _)).keep hba2)).mono ?_
          rintro e wra ⟨vr, rfl, ⟨ss, rfl, hor⟩, hbr⟩
          have hp := below_trans hp hbr
          obtain ⟨RA, RN, RC, rfl⟩ := hor.shape
          refine hK.out _ _ (kB5 hbr hS) (fun hSn invn => ?_)
          try simp only [List.getElem_toArray, List.getElem_cons_zero, List.getElem_cons_succ, Act.put, List.setIfInBounds_toArray, List.set_cons_zero, List.set_cons_succ]
          clear hK K inv hS
          have inv := invn
          have hS := hSn
          clear invn hSn
          have hbz := hbz.keep hbr
          refine F_take (i := 7) (v := ?_) rfl (by kernel_rfl) (by kernel_rfl) (by kernel_rfl) (fun _ _ _ h => h) inv (Or.inl ⟨by rfl, ?_⟩) (by assumption) (fun invn => ?_)
          rotate_left
          · (intro w hSw; (try dsimp only at hSw); go_simp; try with_reducible rfl)
          try simp only [List.getElem_toArray, List.getElem_cons_zero, List.getElem_cons_succ, Act.put, List.setIfInBounds_toArray, List.set_cons_zero, List.set_cons_succ]
          clear inv
          have inv := invn
          clear invn
          refine F_take (i := 8) (v := ?_) rfl (by kernel_rfl) (by kernel_rfl) (by kernel_rfl) (fun _ _ _ h => h) inv (Or.inl ⟨by rfl, ?_⟩) (by assumption) (fun invn => ?_)
          rotate_left
          · (intro w hSw; (try dsimp only at hSw); go_simp; try with_reducible rfl)
          try simp only [List.getElem_toArray, List.getElem_cons_zero, List.getElem_cons_succ, Act.put, List.setIfInBounds_toArray, List.set_cons_zero, List.set_cons_succ]
          clear inv
          have inv := invn
          clear invn
          refine F_take (i := 9) (v := ?_) rfl (by kernel_rfl) (by kernel_rfl) (by kernel_rfl) (fun _ _ _ h => h) inv (Or.inl ⟨by rfl, ?_⟩) (by assumption) (fun invn => ?_)
          rotate_left
          · (intro w hSw; (try dsimp only at hSw); go_simp; try with_reducible rfl)
          try simp only [List.getElem_toArray, List.getElem_cons_zero, List.getElem_cons_succ, Act.put, List.setIfInBounds_toArray, List.set_cons_zero, List.set_cons_succ]
          clear inv
          have inv := invn
          clear invn
          have t0 : wra.cell? ⟨wc1a.heap.size, 0, none⟩ = some (.int .i64 0) := hbz.cell 0
          have t1 : wra.cell? ⟨wc1a.heap.size, 1, none⟩ = some (.slice none 0 0) := hbz.cell 1
          have f0 : wra.frozen? ⟨wc1a.heap.size, 0, none⟩ = false := hbz.frozen 0
          have f1 : wra.frozen? ⟨wc1a.heap.size, 1, none⟩ = false := hbz.frozen 1
          have lz : wc1a.heap.size < wra.heap.size := hbz.lt
          have hon := Only.set2 wra (wc1a.heap.size) (.int .i64 V.1) (.slice RA RN RC)
          have hps := hp.size
          refine F_one (i := 11) (by kernel_rfl) rfl rfl (by omega) inv (fun K hK => ?_)
          try simp only [List.getElem_toArray, List.getElem_cons_zero, List.getElem_cons_succ]
          go_simp
          refine hK.out _ _ (⟨ocell hon hS.1 (by omega) (.inl (by omega)), ocell hon hS.2.1 (by omega) (.inl (by omega)), ocell hon hS.2.2.1 (by omega) (.inl (by omega)), ocell hon hS.2.2.2.1 (by omega) (.inl (by omega)), ocell hon hS.2.2.2.2 (by omega) (.inl (by omega))⟩) (fun hSn invn => ?_)
          try simp only [List.getElem_toArray, List.getElem_cons_zero, List.getElem_cons_succ, Act.put, List.setIfInBounds_toArray, List.set_cons_zero, List.set_cons_succ]
          clear hK K inv hS
          have inv := invn
          have hS := hSn
          clear invn hSn
          refine F_last (i := 12) (by kernel_rfl) rfl rfl (by omega) (by kernel_rfl) (fun K hK => ?_)
          go_simp
          refine hK _ _ ?_
          clear hK K inv hS
          go_wp2_with fail
          go_meet
          exact ⟨wc1a.heap.size, _, _, RA, RN, RC, rfl, rfl, hbz.set2 _ _, hor.only hon (.inr hlo), .inl hlo, hbl, hol, hon.size, hp.trans (hon.below hbl hp.size)⟩
      · go_simp
        have hbz : Blk (wc0a.alloc (.cells #[.int .i64 0, .slice none 0 0] 34)) (wc0a.heap.size) 34 #[.int .i64 0, .slice none 0 0] := Blk.new _ _ _ _ rfl
        have hba1 := (Below.refl wc0a.heap.size wc0a).alloc (Nat.le_refl _) (.cells #[.int .i64 0, .slice none 0 0] 34)
        have hbl : ws1.heap.size ≤ wc0a.heap.size := hp.size
        have hp := below_trans hp hba1
        refine hK.out _ _ (kA5 _ hS) (fun hSn invn => ?_)
        try simp only [List.getElem_toArray, List.getElem_cons_zero, List.getElem_cons_succ, Act.put, List.setIfInBounds_toArray, List.set_cons_zero, List.set_cons_succ]
        clear hK K inv hS
        have inv := invn
        have hS := hSn
        clear invn hSn
        refine F_one (i := 3) (by kernel_rfl) rfl rfl (by omega) inv (fun K hK => ?_)
        try simp only [List.getElem_toArray, List.getElem_cons_zero, List.getElem_cons_succ]
        go_simp
        refine (toAutomaton_any _ a _ (hvo1.keep (below_trans hb hp)) ha1 hc1 HD1.out).mono ?_
        rintro e wc1a ⟨vc1a, rfl, hoc1a, hbc1a⟩
        have hp := below_trans hp hbc1a
        refine hK.out _ _ (kB5 hbc1a hS) (fun hSn invn => ?_)
        try simp only [List.getElem_toArray, List.getElem_cons_zero, List.getElem_cons_succ, Act.put, List.setIfInBounds_toArray, List.set_cons_zero, List.set_cons_succ]
        clear hK K inv hS
        have inv := invn
        have hS := hSn
        clear invn hSn
        have hbz := hbz.keep hbc1a
        refine F_one (i := 6) (by kernel_rfl) rfl rfl (by omega) inv (fun K hK => ?_)
        try simp only [List.getElem_toArray, List.getElem_cons_zero, List.getElem_cons_succ]
        go_simp
        have hol := hp.size
        have hlo : wc0a.heap.size + 1 ≤ _ := hbz.lt
        refine (HSP.out vc0a vc1a _ (((hoc0a.view.all (Nat.le_refl _)).keep hba1).keep hbc1a) (hoc1a.view.all (Nat.le_refl _))).mono ?_
        rintro e wra ⟨vr, rfl, ⟨ss, rfl, hor⟩, hbr⟩
        have hp := below_trans hp hbr
        obtain ⟨RA, RN, RC, rfl⟩ := hor.shape
        refine hK.out _ _ (kB5 hbr hS) (fun hSn invn => ?_)
        try simp only [List.getElem_toArray, List.getElem_cons_zero, List.getElem_cons_succ, Act.put, List.setIfInBounds_toArray, List.set_cons_zero, List.set_cons_succ]
        clear hK K inv hS
        have inv := invn
        have hS := hSn
        clear invn hSn
        have hbz := hbz.keep hbr
        refine F_take (i := 7) (v := ?_) rfl (by kernel_rfl) (by kernel_rfl) (by kernel_rfl) (fun _ _ _ h => h) inv (Or.inl ⟨by rfl, ?_⟩) (by assumption) (fun invn => ?_)
        rotate_left
        · (intro w hSw; (try dsimp only at hSw); go_simp; try with_reducible rfl)
        try simp only [List.getElem_toArray, List.getElem_cons_zero, List.getElem_cons_succ, Act.put, List.setIfInBounds_toArray, List.set_cons_zero, List.set_cons_succ]
        clear inv
        have inv := invn
        clear invn
        refine F_take (i := 8) (v := ?_) rfl (by kernel_rfl) (by kernel_rfl) (by kernel_rfl) (fun _ _ _ h => h) inv (Or.inl ⟨by rfl, ?_⟩) (by assumption) (fun invn => ?_)
        rotate_left
        · (intro w hSw; (try dsimp only at hSw); go_simp; try with_reducible rfl)
        try simp only [List.getElem_toArray, List.getElem_cons_zero, List.getElem_cons_succ, Act.put, List.setIfInBounds_toArray, List.set_cons_zero, List.set_cons_succ]
        clear inv
        have inv := invn
        clear invn
        refine F_take (i := 9) (v := ?_) rfl (by kernel_rfl) (by kernel_rfl) (by kernel_rfl) (fun _ _ _ h => h) inv (Or.inl ⟨by rfl, ?_⟩) (by assumption) (fun invn => ?_)
        rotate_left
        · (intro w hSw; (try dsimp only at hSw); go_simp; try with_reducible rfl)
        try simp only [List.getElem_toArray, List.getElem_cons_zero, List.getElem_cons_succ, Act.put, List.setIfInBounds_toArray, List.set_cons_zero, List.set_cons_succ]
        clear inv
        have inv := invn
        clear invn
        have t0 : wra.cell? ⟨wc0a.heap.size, 0, none⟩ = some (.int .i64 0) := hbz.cell 0
        have t1 : wra.cell? ⟨wc0a.heap.size, 1, none⟩ = some (.slice none 0 0) := hbz.cell 1
        have f0 : wra.frozen? ⟨wc0a.heap.size, 0, none⟩ = false := hbz.frozen 0
        have f1 : wra.frozen? ⟨wc0a.heap.size, 1, none⟩ = false := hbz.frozen 1
        have lz : wc0a.heap.size < wra.heap.size := hbz.lt
        have hon := Only.set2 wra (wc0a.heap.size) (.int .i64 V.1) (.slice RA RN RC)
        have hps := hp.size
        refine F_one (i := 11) (by kernel_rfl) rfl rfl (by omega) inv (fun K hK => ?_)
        try simp only [List.getElem_toArray, List.getElem_cons_zero, List.getElem_cons_succ]
        go_simp
        refine hK.out _ _ (⟨ocell hon hS.1 (by omega) (.inl (by omega)), ocell hon hS.2.1 (by omega) (.inl (by omega)), ocell hon hS.2.2.1 (by omega) (.inl (by omega)), ocell hon hS.2.2.2.1 (by omega) (.inl (by omega)), ocell hon hS.2.2.2.2 (by omega) (.inl (by omega))⟩) (fun hSn invn => ?_)
        try simp only [List.getElem_toArray, List.getElem_cons_zero, List.getElem_cons_succ, Act.put, List.setIfInBounds_toArray, List.set_cons_zero, List.set_cons_succ]
        clear hK K inv hS
        have inv := invn
        have hS := hSn
        clear invn hSn
        refine F_last (i := 12) (by kernel_rfl) rfl rfl (by omega) (by kernel_rfl) (fun K hK => ?_)
        go_simp
        refine hK _ _ ?_
        clear hK K inv hS
        go_wp2_with fail
        go_meet
        exact ⟨wc0a.heap.size, _, _, RA, RN, RC, rfl, rfl, hbz.set2 _ _, hor.only hon (.inr hlo), .inl hlo, hbl, hol, hon.size, hp.trans (hon.below hbl hp.size)⟩
    · go_simp
      have hbz : Blk (ws1.drew.alloc (.cells #[.int .i64 0, .slice none 0 0] 34)) (ws1.heap.size) 34 #[.int .i64 0, .slice none 0 0] := Blk.new _ _ _ _ rfl
      have hba0 := (Below.refl ws1.drew.heap.size ws1.drew).alloc (Nat.le_refl _) (.cells #[.int .i64 0, .slice none 0 0] 34)
      have hbl : ws1.heap.size ≤ ws1.heap.size := hp.size
      have hp := below_trans hp hba0
      refine hK.out _ _ (kA5 _ hS) (fun hSn invn => ?_)
      try simp only [List.getElem_toArray, List.getElem_cons_zero, List.getElem_cons_succ, Act.put, List.setIfInBounds_toArray, List.set_cons_zero, List.set_cons_succ]
      clear hK K inv hS
      have inv := invn
      have hS := hSn
      clear invn hSn
      refine F_one (i := 1) (by kernel_rfl) rfl rfl (by omega) inv (fun K hK => ?_)
      try simp only [List.getElem_toArray, List.getElem_cons_zero, List.getElem_cons_succ]
      go_simp
      refine (toGraph_any _ g _ (hvo0.keep (below_trans hb hp)) ha0 hc0).mono ?_
      rintro e wc0a ⟨vc0a, rfl, hoc0a, hbc0a⟩
      have hp := below_trans hp hbc0a
      refine hK.out _ _ (kB5 hbc0a hS) (fun hSn invn => ?_)
      try simp only [List.getElem_toArray, List.getElem_cons_zero, List.getElem_cons_succ, Act.put, List.setIfInBounds_toArray, List.set_cons_zero, List.set_cons_succ]
      clear hK K inv hS
      have inv := invn
      have hS := hSn
      clear invn hSn
      have hbz := hbz.keep hbc0a
      refine F_one (i := 3) (by kernel_rfl) rfl rfl (by omega) inv (fun K hK => ?_)
      try simp only [List.getElem_toArray, List.getElem_cons_zero, List.getElem_cons_succ]
      go_simp
      refine (toAutomaton_any _ a _ (hvo1.keep (below_trans hb hp)) ha1 hc1 HD1.out).mono ?_
      rintro e wc1a ⟨vc1a, rfl, hoc1a, hbc1a⟩
      have hp := below_trans hp hbc1a
      refine hK.out _ _ (kB5 hbc1a hS) (fun hSn invn => ?_)
      try simp only [List.getElem_toArray, List.getElem_cons_zero, List.getElem_cons_succ, Act.put, List.setIfInBounds_toArray, List.set_cons_zero, List.set_cons_succ]
      clear hK K inv hS
      have inv := invn
      have hS := hSn
      clear invn hSn
      have hbz := hbz.keep hbc1a
      refine F_one (i := 6) (by kernel_rfl) rfl rfl (by omega) inv (fun K hK => ?_)
      try simp only [List.getElem_toArray, List.getElem_cons_zero, List.getElem_cons_succ]
      go_simp
      have hol := hp.size
      have hlo : ws1.heap.size + 1 ≤ _ := hbz.lt
      refine (HSP.out vc0a vc1a _ ((hoc0a.view.all (Nat.le_refl _)).keep hbc1a) (hoc1a.view.all (Nat.le_refl _))).mono ?_
      rintro e wra ⟨vr, rfl, ⟨ss, rfl, hor⟩, hbr⟩
      have hp := below_trans hp hbr
      obtain ⟨RA, RN, RC, rfl⟩ := hor.shape
      refine hK.out _ _ (kB5 hbr hS) (fun hSn invn => ?_)
      try simp only [List.getElem_toArray, List.getElem_cons_zero, List.getElem_cons_succ, Act.put, List.setIfInBounds_toArray, List.set_cons_zero, List.set_cons_succ]
      clear hK K inv hS
      have inv := invn
      have hS := hSn
      clear invn hSn
      have hbz := hbz.keep hbr
      refine F_take (i := 7) (v := ?_) rfl (by kernel_rfl) (by kernel_rfl) (by kernel_rfl) (fun _ _ _ h => h) inv (Or.inl ⟨by rfl, ?_⟩) (by assumption) (fun invn => ?_)
      rotate_left
      · (intro w hSw; (try dsimp only at hSw); go_simp; try with_reducible rfl)
      try simp only [List.getElem_toArray, List.getElem_cons_zero, List.getElem_cons_succ, Act.put, List.setIfInBounds_toArray, List.set_cons_zero, List.set_cons_succ]
      clear inv
      have inv := invn
      clear invn
      refine F_take (i := 8) (v := ?_) rfl (by kernel_rfl) (by kernel_rfl) (by kernel_rfl) (fun _ _ _ h => h) inv (Or.inl ⟨by rfl, ?_⟩) (by assumption) (fun invn => ?_)
      rotate_left
      · (intro w hSw; (try dsimp only at hSw); go_simp; try with_reducible rfl)
      try simp only [List.getElem_toArray, List.getElem_cons_zero, List.getElem_cons_succ, Act.put, List.setIfInBounds_toArray, List.set_cons_zero, List.set_cons_succ]
      clear inv
      have inv := invn
      clear invn
      refine F_take (i := 9) (v := ?_) rfl (by kernel_rfl) (by kernel_rfl) (by kernel_rfl) (fun _ _ _ h => h) inv (Or.inl ⟨by rfl, ?_⟩) (by assumption) (fun invn => ?_)
      rotate_left
      · (intro w hSw; (try dsimp only at hSw); go_simp; try with_reducible rfl)
      try simp only [List.getElem_toArray, List.getElem_cons_zero, List.getElem_cons_succ, Act.put, List.setIfInBounds_toArray, List.set_cons_zero, List.set_cons_succ]
      clear inv
      have inv := invn
      clear invn
      have t0 : wra.cell? ⟨ws1.heap.size, 0, none⟩ = some (.int .i64 0) := hbz.cell 0
      have t1 : wra.cell? ⟨ws1.heap.size, 1, none⟩ = some (.slice none 0 0) := hbz.cell 1
      have f0 : wra.frozen? ⟨ws1.heap.size, 0, none⟩ = false := hbz.frozen 0
      have f1 : wra.frozen? ⟨ws1.heap.size, 1, none⟩ = false := hbz.frozen 1
      have lz : ws1.heap.size < wra.heap.size := hbz.lt
      have hon := Only.set2 wra (ws1.heap.size) (.int .i64 V.1) (.slice RA RN RC)
      have hps := hp.size
      refine F_one (i := 11) (by kernel_rfl) rfl rfl (by omega) inv (fun K hK => ?_)
      try simp only [List.getElem_toArray, List.getElem_cons_zero, List.getElem_cons_succ]
      go_simp
      refine hK.out _ _ (⟨ocell hon hS.1 (by omega) (.inl (by omega)), ocell hon hS.2.1 (by omega) (.inl (by omega)), ocell hon hS.2.2.1 (by omega) (.inl (by omega)), ocell hon hS.2.2.2.1 (by omega) (.inl (by omega)), ocell hon hS.2.2.2.2 (by omega) (.inl (by omega))⟩) (fun hSn invn => ?_)
      try simp only [List.getElem_toArray, List.getElem_cons_zero, List.getElem_cons_succ, Act.put, List.setIfInBounds_toArray, List.set_cons_zero, List.set_cons_succ]
      clear hK K inv hS
      have inv := invn
      have hS := hSn
      clear invn hSn
      refine F_last (i := 12) (by kernel_rfl) rfl rfl (by omega) (by kernel_rfl) (fun K hK => ?_)
      go_simp
      refine hK _ _ ?_
      clear hK K inv hS
      go_wp2_with fail
      go_meet
      exact ⟨ws1.heap.size, _, _, RA, RN, RC, rfl, rfl, hbz.set2 _ _, hor.only hon (.inr hlo), .inl hlo, hbl, hol, hon.size, hp.trans (hon.below hbl hp.size)⟩
  case rest =>
    obtain ⟨br, rlo, rhi, RA, RN, RC, rfl, rfl, hbr, hr, hrd, hrb, hrl, hrs, hbn⟩ := hcut
    replace y0_0 := kcell hbn y0_0
    replace y0_1 := kcell hbn y0_1
    replace y1_0 := kcell hbn y1_0
    replace y1_1 := kcell hbn y1_1
    replace y1_2 := kcell hbn y1_2
    replace l0 := Nat.lt_of_lt_of_le l0 hbn.size
    replace l1 := Nat.lt_of_lt_of_le l1 hbn.size
    have z_wc := hbn.size
    replace hb := below_trans hb hbn
    clear hbn
    have hrh := hrs
    have l2 := hbr.lt
    have y2_0 : wc.cell? ⟨br, 0, none⟩ = some (.int .i64 V.1) := hbr.cell 0
    have y2_1 : wc.cell? ⟨br, 1, none⟩ = some (.slice RA RN RC) := hbr.cell 1
    clear hbr
    have lbr0 := l2
    obtain ⟨wcs, hwcs⟩ : ∃ wcs : Nat, wcs = wc.heap.size := ⟨_, rfl⟩
    have hwcs1 : wcs ≤ wc.heap.size := by omega
    have hwcs2 : wc.heap.size ≤ wcs := by omega
    clear hwcs
    go_wp2_with fail
    (refine (toGraph_any _ g _ (hvo0.keep hb) ha0 hc0).mono ?_; rintro e wk0 ⟨vk0, rfl, hx0, hbn⟩)
    obtain ⟨C0, p0, e0, D0, q0, f0, rfl⟩ := hx0.view.shape
    replace y0_0 := kcell hbn y0_0
    replace y0_1 := kcell hbn y0_1
    replace y1_0 := kcell hbn y1_0
    replace y1_1 := kcell hbn y1_1
    replace y1_2 := kcell hbn y1_2
    replace y2_0 := kcell hbn y2_0
    replace y2_1 := kcell hbn y2_1
    replace l0 := Nat.lt_of_lt_of_le l0 hbn.size
    replace l1 := Nat.lt_of_lt_of_le l1 hbn.size
    replace l2 := Nat.lt_of_lt_of_le l2 hbn.size
    replace hr := hr.below hbn hrs
    replace hrs := Nat.le_trans hrs hbn.size
    have z_wk0 := hbn.size
    replace hb := below_trans hb hbn
    clear hbn
    have hx0s : wk0.heap.size ≤ wk0.heap.size := Nat.le_refl _
    go_wp2_with fail
    have bz := Blk.new wk0 39 #[.slice C0 p0 e0, .slice D0 q0 f0] wk0.heap.size rfl
    have hbn : Below wk0.heap.size wk0 (wk0.alloc (.cells #[.slice C0 p0 e0, .slice D0 q0 f0] 39)) := (Below.refl _ _).alloc (Nat.le_refl _) _
    generalize wk0.alloc (.cells #[.slice C0 p0 e0, .slice D0 q0 f0] 39) = wl0 at hbn bz ⊢
    replace y0_0 := kcell hbn y0_0
    replace y0_1 := kcell hbn y0_1
    replace y1_0 := kcell hbn y1_0
    replace y1_1 := kcell hbn y1_1
    replace y1_2 := kcell hbn y1_2
    replace y2_0 := kcell hbn y2_0
    replace y2_1 := kcell hbn y2_1
    replace l0 := Nat.lt_of_lt_of_le l0 hbn.size
    replace l1 := Nat.lt_of_lt_of_le l1 hbn.size
    replace l2 := Nat.lt_of_lt_of_le l2 hbn.size
    replace hr := hr.below hbn hrs
    replace hrs := Nat.le_trans hrs hbn.size
    replace hx0 := hx0.below hbn hx0s
    replace hx0s := Nat.le_trans hx0s hbn.size
    have z_wl0 := hbn.size
    replace hb := below_trans hb hbn
    clear hbn
    have l3 := bz.lt
    have y3_0 : wl0.cell? ⟨wk0.heap.size, 0, none⟩ = some (.slice C0 p0 e0) := bz.cell 0
    have y3_1 : wl0.cell? ⟨wk0.heap.size, 1, none⟩ = some (.slice D0 q0 f0) := bz.cell 1
    clear bz
    (refine (toAutomaton_any _ a _ (hvo1.keep hb) ha1 hc1 HD1.out).mono ?_; rintro e wk1 ⟨vk1, rfl, hx1, hbn⟩)
    obtain ⟨C1, p1, e1, D1, q1, f1, rfl⟩ := hx1.view.shape
    replace y0_0 := kcell hbn y0_0
    replace y0_1 := kcell hbn y0_1
    replace y1_0 := kcell hbn y1_0
    replace y1_1 := kcell hbn y1_1
    replace y1_2 := kcell hbn y1_2
    replace y2_0 := kcell hbn y2_0
    replace y2_1 := kcell hbn y2_1
    replace y3_0 := kcell hbn y3_0
    replace y3_1 := kcell hbn y3_1
    replace l0 := Nat.lt_of_lt_of_le l0 hbn.size
    replace l1 := Nat.lt_of_lt_of_le l1 hbn.size
    replace l2 := Nat.lt_of_lt_of_le l2 hbn.size
    replace l3 := Nat.lt_of_lt_of_le l3 hbn.size
    replace hr := hr.below hbn hrs
    replace hrs := Nat.le_trans hrs hbn.size
    replace hx0 := hx0.below hbn hx0s
    replace hx0s := Nat.le_trans hx0s hbn.size
    have z_wk1 := hbn.size
    replace hb := below_trans hb hbn
    clear hbn
    have hx1s : wk1.heap.size ≤ wk1.heap.size := Nat.le_refl _
    go_wp2_with fail
    have bz := Blk.new wk1 41 #[.int .i64 a.start, .slice C1 p1 e1, .slice D1 q1 f1] wk1.heap.size rfl
    have hbn : Below wk1.heap.size wk1 (wk1.alloc (.cells #[.int .i64 a.start, .slice C1 p1 e1, .slice D1 q1 f1] 41)) := (Below.refl _ _).alloc (Nat.le_refl _) _
    generalize wk1.alloc (.cells #[.int .i64 a.start, .slice C1 p1 e1, .slice D1 q1 f1] 41) = wl1 at hbn bz ⊢
    replace y0_0 := kcell hbn y0_0
    replace y0_1 := kcell hbn y0_1
    replace y1_0 := kcell hbn y1_0
    replace y1_1 := kcell hbn y1_1
    replace y1_2 := kcell hbn y1_2
    replace y2_0 := kcell hbn y2_0
    replace y2_1 := kcell hbn y2_1
    replace y3_0 := kcell hbn y3_0
    replace y3_1 := kcell hbn y3_1
    replace l0 := Nat.lt_of_lt_of_le l0 hbn.size
    replace l1 := Nat.lt_of_lt_of_le l1 hbn.size
    replace l2 := Nat.lt_of_lt_of_le l2 hbn.size
    replace l3 := Nat.lt_of_lt_of_le l3 hbn.size
    replace hr := hr.below hbn hrs
    replace hrs := Nat.le_trans hrs hbn.size
    replace hx0 := hx0.below hbn hx0s
    replace hx0s := Nat.le_trans hx0s hbn.size
    replace hx1 := hx1.below hbn hx1s
    replace hx1s := Nat.le_trans hx1s hbn.size
    have z_wl1 := hbn.size
    replace hb := below_trans hb hbn
    clear hbn
    have l4 := bz.lt
    have y4_0 : wl1.cell? ⟨wk1.heap.size, 0, none⟩ = some (.int .i64 a.start) := bz.cell 0
    have y4_1 : wl1.cell? ⟨wk1.heap.size, 1, none⟩ = some (.slice C1 p1 e1) := bz.cell 1
    have y4_2 : wl1.cell? ⟨wk1.heap.size, 2, none⟩ = some (.slice D1 q1 f1) := bz.cell 2
    clear bz
    (refine (HIM.out _ _ _ (hx0.view.all hx0s) (hx1.view.all hx1s)).mono ?_; rintro e wg ⟨vg, rfl, ⟨ssg, rfl, hg⟩, hbn⟩)
    replace y0_0 := kcell hbn y0_0
    replace y0_1 := kcell hbn y0_1
    replace y1_0 := kcell hbn y1_0
    replace y1_1 := kcell hbn y1_1
    replace y1_2 := kcell hbn y1_2
    replace y2_0 := kcell hbn y2_0
    replace y2_1 := kcell hbn y2_1
    replace y3_0 := kcell hbn y3_0
    replace y3_1 := kcell hbn y3_1
    replace y4_0 := kcell hbn y4_0
    replace y4_1 := kcell hbn y4_1
    replace y4_2 := kcell hbn y4_2
    replace l0 := Nat.lt_of_lt_of_le l0 hbn.size
    replace l1 := Nat.lt_of_lt_of_le l1 hbn.size
    replace l2 := Nat.lt_of_lt_of_le l2 hbn.size
    replace l3 := Nat.lt_of_lt_of_le l3 hbn.size
    replace l4 := Nat.lt_of_lt_of_le l4 hbn.size
    replace hr := hr.below hbn hrs
    replace hrs := Nat.le_trans hrs hbn.size
    replace hx0 := hx0.below hbn hx0s
    replace hx0s := Nat.le_trans hx0s hbn.size
    replace hx1 := hx1.below hbn hx1s
    replace hx1s := Nat.le_trans hx1s hbn.size
    have z_wg := hbn.size
    replace hb := below_trans hb hbn
    clear hbn
    obtain ⟨GA, GN, GC, rfl⟩ := hg.shape
    have hgs : wg.heap.size ≤ wg.heap.size := Nat.le_refl _
    go_wp2_with fail
    have bz := Blk.new wg 34 #[.int .i64 V.1, .slice GA GN GC] wg.heap.size rfl
    have hbn : Below wg.heap.size wg (wg.alloc (.cells #[.int .i64 V.1, .slice GA GN GC] 34)) := (Below.refl _ _).alloc (Nat.le_refl _) _
    generalize wg.alloc (.cells #[.int .i64 V.1, .slice GA GN GC] 34) = wga at hbn bz ⊢
    replace y0_0 := kcell hbn y0_0
    replace y0_1 := kcell hbn y0_1
    replace y1_0 := kcell hbn y1_0
    replace y1_1 := kcell hbn y1_1
    replace y1_2 := kcell hbn y1_2
    replace y2_0 := kcell hbn y2_0
    replace y2_1 := kcell hbn y2_1
    replace y3_0 := kcell hbn y3_0
    replace y3_1 := kcell hbn y3_1
    replace y4_0 := kcell hbn y4_0
    replace y4_1 := kcell hbn y4_1
    replace y4_2 := kcell hbn y4_2
    replace l0 := Nat.lt_of_lt_of_le l0 hbn.size
    replace l1 := Nat.lt_of_lt_of_le l1 hbn.size
    replace l2 := Nat.lt_of_lt_of_le l2 hbn.size
    replace l3 := Nat.lt_of_lt_of_le l3 hbn.size
    replace l4 := Nat.lt_of_lt_of_le l4 hbn.size
    replace hr := hr.below hbn hrs
    replace hrs := Nat.le_trans hrs hbn.size
    replace hx0 := hx0.below hbn hx0s
    replace hx0s := Nat.le_trans hx0s hbn.size
    replace hx1 := hx1.below hbn hx1s
    replace hx1s := Nat.le_trans hx1s hbn.size
    replace hg := hg.below hbn hgs
    replace hgs := Nat.le_trans hgs hbn.size
    have z_wga := hbn.size
    replace hb := below_trans hb hbn
    clear hbn
    have l5 := bz.lt
    have y5_0 : wga.cell? ⟨wg.heap.size, 0, none⟩ = some (.int .i64 V.1) := bz.cell 0
    have y5_1 : wga.cell? ⟨wg.heap.size, 1, none⟩ = some (.slice GA GN GC) := bz.cell 1
    clear bz
    (refine (eqWalk_same _ _ (V) _ ⟨_, rfl, ((hg.sl cSt_len).all hgs)⟩ ⟨_, rfl, ((hr.sl cSt_len).all hrs)⟩).mono ?_; rintro e wq0 ⟨rfl, hbn⟩)
    replace y0_0 := kcell hbn y0_0
    replace y0_1 := kcell hbn y0_1
    replace y1_0 := kcell hbn y1_0
    replace y1_1 := kcell hbn y1_1
    replace y1_2 := kcell hbn y1_2
    replace y2_0 := kcell hbn y2_0
    replace y2_1 := kcell hbn y2_1
    replace y3_0 := kcell hbn y3_0
    replace y3_1 := kcell hbn y3_1
    replace y4_0 := kcell hbn y4_0
    replace y4_1 := kcell hbn y4_1
    replace y4_2 := kcell hbn y4_2
    replace y5_0 := kcell hbn y5_0
    replace y5_1 := kcell hbn y5_1
    replace l0 := Nat.lt_of_lt_of_le l0 hbn.size
    replace l1 := Nat.lt_of_lt_of_le l1 hbn.size
    replace l2 := Nat.lt_of_lt_of_le l2 hbn.size
    replace l3 := Nat.lt_of_lt_of_le l3 hbn.size
    replace l4 := Nat.lt_of_lt_of_le l4 hbn.size
    replace l5 := Nat.lt_of_lt_of_le l5 hbn.size
    replace hr := hr.below hbn hrs
    replace hrs := Nat.le_trans hrs hbn.size
    replace hx0 := hx0.below hbn hx0s
    replace hx0s := Nat.le_trans hx0s hbn.size
    replace hx1 := hx1.below hbn hx1s
    replace hx1s := Nat.le_trans hx1s hbn.size
    replace hg := hg.below hbn hgs
    replace hgs := Nat.le_trans hgs hbn.size
    have z_wq0 := hbn.size
    replace hb := below_trans hb hbn
    clear hbn
    go_wp2_with fail
    go_region_held3 (fun w' => Below wq0.heap.size wq0 w' ∧ wq0.heap.size ≤ w'.heap.size ∧ w'.cell? ⟨w.heap.size, 0, none⟩ = some (.slice A0 n0 c0) ∧ w'.cell? ⟨w.heap.size, 1, none⟩ = some (.slice B0 m0 d0) ∧ w'.cell? ⟨w.heap.size + 1, 0, none⟩ = some (.int .i64 a.start) ∧ w'.cell? ⟨w.heap.size + 1, 1, none⟩ = some (.slice A1 n1 c1) ∧ w'.cell? ⟨w.heap.size + 1, 2, none⟩ = some (.slice B1 m1 d1) ∧ w'.cell? ⟨br, 0, none⟩ = some (.int .i64 V.1) ∧ w'.cell? ⟨br, 1, none⟩ = some (.slice RA RN RC) ∧ w'.cell? ⟨wk0.heap.size, 0, none⟩ = some (.slice C0 p0 e0) ∧ w'.cell? ⟨wk0.heap.size, 1, none⟩ = some (.slice D0 q0 f0) ∧ w'.cell? ⟨wk1.heap.size, 0, none⟩ = some (.int .i64 a.start) ∧ w'.cell? ⟨wk1.heap.size, 1, none⟩ = some (.slice C1 p1 e1) ∧ w'.cell? ⟨wk1.heap.size, 2, none⟩ = some (.slice D1 q1 f1) ∧ w'.cell? ⟨wg.heap.size, 0, none⟩ = some (.int .i64 V.1) ∧ w'.cell? ⟨wg.heap.size, 1, none⟩ = some (.slice GA GN GC))
      (first | (exact ⟨(Below.refl _ _).drew, Nat.le_refl _, y0_0, y0_1, y1_0, y1_1, y1_2, y2_0, y2_1, y3_0, y3_1, y4_0, y4_1, y4_2, y5_0, y5_1⟩) | (exact hold14 l0 l0 l1 l1 l1 l2 l2 l3 l3 l4 l4 l4 l5 l5 (by assumption) (by assumption)))
      (first | (go_at_call 10; refine (toGraph_any _ g _ (hvo0.keep (below_trans hb (hold_below (by assumption)))) ha0 hc0).mono ?_; rintro e wd0 ⟨vd0, rfl, hod0, hbd0⟩) | (go_at_call 14; refine (eqGraph_same _ _ g _ ((hx0.view.all hx0s).keep (hold_below (by assumption))) (hod0.view.all (Nat.le_refl _))).mono ?_; rintro e we0 ⟨rfl, hbe0⟩))
    clear y0_0 y0_1 y1_0 y1_1 y1_2 y2_0 y2_1 y3_0 y3_1 y4_0 y4_1 y4_2 y5_0 y5_1
    (rename_i hh; obtain ⟨hbn, -, y0_0, y0_1, y1_0, y1_1, y1_2, y2_0, y2_1, y3_0, y3_1, y4_0, y4_1, y4_2, y5_0, y5_1⟩ := hh)
    replace l0 := Nat.lt_of_lt_of_le l0 hbn.size
    replace l1 := Nat.lt_of_lt_of_le l1 hbn.size
    replace l2 := Nat.lt_of_lt_of_le l2 hbn.size
    replace l3 := Nat.lt_of_lt_of_le l3 hbn.size
    replace l4 := Nat.lt_of_lt_of_le l4 hbn.size
    replace l5 := Nat.lt_of_lt_of_le l5 hbn.size
    replace hr := hr.below hbn hrs
    replace hrs := Nat.le_trans hrs hbn.size
    replace hx0 := hx0.below hbn hx0s
    replace hx0s := Nat.le_trans hx0s hbn.size
    replace hx1 := hx1.below hbn hx1s
    replace hx1s := Nat.le_trans hx1s hbn.size
    replace hg := hg.below hbn hgs
    replace hgs := Nat.le_trans hgs hbn.size
    have z_we0 := hbn.size
    replace hb := below_trans hb hbn
    clear hbn
    clear hod0 hbd0 hbe0
    go_wp2_with fail
    go_region_held3 (fun w' => Below we0.heap.size we0 w' ∧ we0.heap.size ≤ w'.heap.size ∧ w'.cell? ⟨w.heap.size, 0, none⟩ = some (.slice A0 n0 c0) ∧ w'.cell? ⟨w.heap.size, 1, none⟩ = some (.slice B0 m0 d0) ∧ w'.cell? ⟨w.heap.size + 1, 0, none⟩ = some (.int .i64 a.start) ∧ w'.cell? ⟨w.heap.size + 1, 1, none⟩ = some (.slice A1 n1 c1) ∧ w'.cell? ⟨w.heap.size + 1, 2, none⟩ = some (.slice B1 m1 d1) ∧ w'.cell? ⟨br, 0, none⟩ = some (.int .i64 V.1) ∧ w'.cell? ⟨br, 1, none⟩ = some (.slice RA RN RC) ∧ w'.cell? ⟨wk0.heap.size, 0, none⟩ = some (.slice C0 p0 e0) ∧ w'.cell? ⟨wk0.heap.size, 1, none⟩ = some (.slice D0 q0 f0) ∧ w'.cell? ⟨wk1.heap.size, 0, none⟩ = some (.int .i64 a.start) ∧ w'.cell? ⟨wk1.heap.size, 1, none⟩ = some (.slice C1 p1 e1) ∧ w'.cell? ⟨wk1.heap.size, 2, none⟩ = some (.slice D1 q1 f1) ∧ w'.cell? ⟨wg.heap.size, 0, none⟩ = some (.int .i64 V.1) ∧ w'.cell? ⟨wg.heap.size, 1, none⟩ = some (.slice GA GN GC))
      (first | (exact ⟨(Below.refl _ _).drew, Nat.le_refl _, y0_0, y0_1, y1_0, y1_1, y1_2, y2_0, y2_1, y3_0, y3_1, y4_0, y4_1, y4_2, y5_0, y5_1⟩) | (exact hold14 l0 l0 l1 l1 l1 l2 l2 l3 l3 l4 l4 l4 l5 l5 (by assumption) (by assumption)))
      (first | (go_at_call 11; refine (toAutomaton_any _ a _ (hvo1.keep (below_trans hb (hold_below (by assumption)))) ha1 hc1 HD1.out).mono ?_; rintro e wd1 ⟨vd1, rfl, hod1, hbd1⟩) | (go_at_call 15; refine (eqAutomaton_same _ _ a _ ((hx1.view.all hx1s).keep (hold_below (by assumption))) (hod1.view.all (Nat.le_refl _))).mono ?_; rintro e we1 ⟨rfl, hbe1⟩))
    clear y0_0 y0_1 y1_0 y1_1 y1_2 y2_0 y2_1 y3_0 y3_1 y4_0 y4_1 y4_2 y5_0 y5_1
    (rename_i hh; obtain ⟨hbn, -, y0_0, y0_1, y1_0, y1_1, y1_2, y2_0, y2_1, y3_0, y3_1, y4_0, y4_1, y4_2, y5_0, y5_1⟩ := hh)
    replace l0 := Nat.lt_of_lt_of_le l0 hbn.size
    replace l1 := Nat.lt_of_lt_of_le l1 hbn.size
    replace l2 := Nat.lt_of_lt_of_le l2 hbn.size
    replace l3 := Nat.lt_of_lt_of_le l3 hbn.size
    replace l4 := Nat.lt_of_lt_of_le l4 hbn.size
    replace l5 := Nat.lt_of_lt_of_le l5 hbn.size
    replace hr := hr.below hbn hrs
    replace hrs := Nat.le_trans hrs hbn.size
    replace hx0 := hx0.below hbn hx0s
    replace hx0s := Nat.le_trans hx0s hbn.size
    replace hx1 := hx1.below hbn hx1s
    replace hx1s := Nat.le_trans hx1s hbn.size
    replace hg := hg.below hbn hgs
    replace hgs := Nat.le_trans hgs hbn.size
    have z_we1 := hbn.size
    replace hb := below_trans hb hbn
    clear hbn
    clear hod1 hbd1 hbe1
    go_wp2_with fail
    (refine (markGraph_any _ _ _ g 1 _ hx0 hx0s (by omega) ha0 hc0 (by omega)).mono ?_; rintro e wm0 ⟨k0, rfl, hk0, hkm0, ho⟩)
    clear y3_0 y3_1 l3
    clear hx0 hx0s
    replace y0_0 := (ho.cell (p := ⟨w.heap.size, 0, none⟩) l0 (by simp only; omega)).trans y0_0
    replace y0_1 := (ho.cell (p := ⟨w.heap.size, 1, none⟩) l0 (by simp only; omega)).trans y0_1
    replace y1_0 := (ho.cell (p := ⟨w.heap.size + 1, 0, none⟩) l1 (by simp only; omega)).trans y1_0
    replace y1_1 := (ho.cell (p := ⟨w.heap.size + 1, 1, none⟩) l1 (by simp only; omega)).trans y1_1
    replace y1_2 := (ho.cell (p := ⟨w.heap.size + 1, 2, none⟩) l1 (by simp only; omega)).trans y1_2
    replace y2_0 := (ho.cell (p := ⟨br, 0, none⟩) l2 (by simp only; omega)).trans y2_0
    replace y2_1 := (ho.cell (p := ⟨br, 1, none⟩) l2 (by simp only; omega)).trans y2_1
    replace y4_0 := (ho.cell (p := ⟨wk1.heap.size, 0, none⟩) l4 (by simp only; omega)).trans y4_0
    replace y4_1 := (ho.cell (p := ⟨wk1.heap.size, 1, none⟩) l4 (by simp only; omega)).trans y4_1
    replace y4_2 := (ho.cell (p := ⟨wk1.heap.size, 2, none⟩) l4 (by simp only; omega)).trans y4_2
    replace y5_0 := (ho.cell (p := ⟨wg.heap.size, 0, none⟩) l5 (by simp only; omega)).trans y5_0
    replace y5_1 := (ho.cell (p := ⟨wg.heap.size, 1, none⟩) l5 (by simp only; omega)).trans y5_1
    replace l0 := Nat.lt_of_lt_of_le l0 ho.size
    replace l1 := Nat.lt_of_lt_of_le l1 ho.size
    replace l2 := Nat.lt_of_lt_of_le l2 ho.size
    replace l4 := Nat.lt_of_lt_of_le l4 ho.size
    replace l5 := Nat.lt_of_lt_of_le l5 ho.size
    replace hr := hr.only ho (by omega)
    replace hrs := Nat.le_trans hrs ho.size
    replace hx1 := hx1.only ho (by omega)
    replace hx1s := Nat.le_trans hx1s ho.size
    replace hg := hg.only ho (by omega)
    replace hgs := Nat.le_trans hgs ho.size
    have z_wm0 := ho.size
    replace hb := hb.trans (ho.below (by omega) (by omega))
    clear ho
    go_wp2_with fail
    (refine (markAutomaton_any _ _ _ a k0 _ hx1 hx1s (by omega) ha1 hc1 he1 (by omega)).mono ?_; rintro e wm1 ⟨k1, rfl, hk1, hkm1, ho⟩)
    clear y4_0 y4_1 y4_2 l4
    clear hx1 hx1s
    replace y0_0 := (ho.cell (p := ⟨w.heap.size, 0, none⟩) l0 (by simp only; omega)).trans y0_0
    replace y0_1 := (ho.cell (p := ⟨w.heap.size, 1, none⟩) l0 (by simp only; omega)).trans y0_1
    replace y1_0 := (ho.cell (p := ⟨w.heap.size + 1, 0, none⟩) l1 (by simp only; omega)).trans y1_0
    replace y1_1 := (ho.cell (p := ⟨w.heap.size + 1, 1, none⟩) l1 (by simp only; omega)).trans y1_1
    replace y1_2 := (ho.cell (p := ⟨w.heap.size + 1, 2, none⟩) l1 (by simp only; omega)).trans y1_2
    replace y2_0 := (ho.cell (p := ⟨br, 0, none⟩) l2 (by simp only; omega)).trans y2_0
    replace y2_1 := (ho.cell (p := ⟨br, 1, none⟩) l2 (by simp only; omega)).trans y2_1
    replace y5_0 := (ho.cell (p := ⟨wg.heap.size, 0, none⟩) l5 (by simp only; omega)).trans y5_0
    replace y5_1 := (ho.cell (p := ⟨wg.heap.size, 1, none⟩) l5 (by simp only; omega)).trans y5_1
    replace l0 := Nat.lt_of_lt_of_le l0 ho.size
    replace l1 := Nat.lt_of_lt_of_le l1 ho.size
    replace l2 := Nat.lt_of_lt_of_le l2 ho.size
    replace l5 := Nat.lt_of_lt_of_le l5 ho.size
    replace hr := hr.only ho (by omega)
    replace hrs := Nat.le_trans hrs ho.size
    replace hg := hg.only ho (by omega)
    replace hgs := Nat.le_trans hgs ho.size
    have z_wm1 := ho.size
    replace hb := hb.trans (ho.below (by omega) (by omega))
    clear ho
    have hkd : decide (k1 < 0) = false := by simp; omega
    go_wp2_with fail
    clear hkd hk1 hkm1 hk0 hkm0
    (refine (eqWalk_same _ _ (V) _ ⟨_, rfl, ((hg.sl cSt_len).all hgs)⟩ ⟨_, rfl, ((hr.sl cSt_len).all hrs)⟩).mono ?_; rintro e wq1 ⟨rfl, hbn⟩)
    replace y0_0 := kcell hbn y0_0
    replace y0_1 := kcell hbn y0_1
    replace y1_0 := kcell hbn y1_0
    replace y1_1 := kcell hbn y1_1
    replace y1_2 := kcell hbn y1_2
    replace y2_0 := kcell hbn y2_0
    replace y2_1 := kcell hbn y2_1
    replace y5_0 := kcell hbn y5_0
    replace y5_1 := kcell hbn y5_1
    replace l0 := Nat.lt_of_lt_of_le l0 hbn.size
    replace l1 := Nat.lt_of_lt_of_le l1 hbn.size
    replace l2 := Nat.lt_of_lt_of_le l2 hbn.size
    replace l5 := Nat.lt_of_lt_of_le l5 hbn.size
    replace hr := hr.below hbn hrs
    replace hrs := Nat.le_trans hrs hbn.size
    replace hg := hg.below hbn hgs
    replace hgs := Nat.le_trans hgs hbn.size
    have z_wq1 := hbn.size
    replace hb := below_trans hb hbn
    clear hbn
    go_wp2_with fail
    (refine (markWalk_any _ _ _ (V) 1 _ ⟨_, rfl, hg⟩ hgs (by omega) (by omega) (by omega)).mono ?_; rintro e wmg ⟨rfl, ⟨ssm, hsm, hgm⟩, ho⟩)
    obtain rfl : ssm = .slice GA GN GC := by injection hsm with hsm; simp at hsm; exact hsm.symm
    clear hsm
    clear hg
    have hg := hgm
    clear hgm
    replace y0_0 := (ho.cell (p := ⟨w.heap.size, 0, none⟩) l0 (by simp only; omega)).trans y0_0
    replace y0_1 := (ho.cell (p := ⟨w.heap.size, 1, none⟩) l0 (by simp only; omega)).trans y0_1
    replace y1_0 := (ho.cell (p := ⟨w.heap.size + 1, 0, none⟩) l1 (by simp only; omega)).trans y1_0
    replace y1_1 := (ho.cell (p := ⟨w.heap.size + 1, 1, none⟩) l1 (by simp only; omega)).trans y1_1
    replace y1_2 := (ho.cell (p := ⟨w.heap.size + 1, 2, none⟩) l1 (by simp only; omega)).trans y1_2
    replace y2_0 := (ho.cell (p := ⟨br, 0, none⟩) l2 (by simp only; omega)).trans y2_0
    replace y2_1 := (ho.cell (p := ⟨br, 1, none⟩) l2 (by simp only; omega)).trans y2_1
    replace y5_0 := (ho.cell (p := ⟨wg.heap.size, 0, none⟩) l5 (by simp only; omega)).trans y5_0
    replace y5_1 := (ho.cell (p := ⟨wg.heap.size, 1, none⟩) l5 (by simp only; omega)).trans y5_1
    replace l0 := Nat.lt_of_lt_of_le l0 ho.size
    replace l1 := Nat.lt_of_lt_of_le l1 ho.size
    replace l2 := Nat.lt_of_lt_of_le l2 ho.size
    replace l5 := Nat.lt_of_lt_of_le l5 ho.size
    replace hr := hr.only ho (by omega)
    replace hrs := Nat.le_trans hrs ho.size
    replace hgs := Nat.le_trans hgs ho.size
    have z_wmg := ho.size
    replace hb := hb.trans (ho.below (by omega) (by omega))
    clear ho
    go_wp2_with fail
    (refine (heldWalk_any _ _ V.2.length 1 _ ⟨_, rfl, ((hg.sl cSt_len).all hgs)⟩ (by omega) (by omega) (by omega)).mono ?_; rintro e wh0 ⟨rfl, hbn⟩)
    replace y0_0 := kcell hbn y0_0
    replace y0_1 := kcell hbn y0_1
    replace y1_0 := kcell hbn y1_0
    replace y1_1 := kcell hbn y1_1
    replace y1_2 := kcell hbn y1_2
    replace y2_0 := kcell hbn y2_0
    replace y2_1 := kcell hbn y2_1
    replace y5_0 := kcell hbn y5_0
    replace y5_1 := kcell hbn y5_1
    replace l0 := Nat.lt_of_lt_of_le l0 hbn.size
    replace l1 := Nat.lt_of_lt_of_le l1 hbn.size
    replace l2 := Nat.lt_of_lt_of_le l2 hbn.size
    replace l5 := Nat.lt_of_lt_of_le l5 hbn.size
    replace hr := hr.below hbn hrs
    replace hrs := Nat.le_trans hrs hbn.size
    replace hg := hg.below hbn hgs
    replace hgs := Nat.le_trans hgs hbn.size
    have z_wh0 := hbn.size
    replace hb := below_trans hb hbn
    clear hbn
    have t0 : decide (1 + 2 * ((V.2.length : Nat) : Int) < 0) = false := by simp; omega
    have t1 : (1 + 2 * ((V.2.length : Nat) : Int) != 1 + 2 * ((V.2.length : Nat) : Int)) = false := by simp
    go_wp2_with fail
    clear t0 t1
    go_cut [19, 20] (fun p c wx => ∃ (b lo hi : Nat) (A : Option Addr) (n k : Nat), p = .pointer (some ⟨b, 0, none⟩) ∧ c = (.bool C) ∧ Blk wx b 34 #[.int .i64 V.1, .slice A n k] ∧ Own lo hi wx 96 cSt 2 (.slice A n k) V.2 ∧ (b < lo ∨ hi ≤ b) ∧ wh0.heap.size ≤ b ∧ wh0.heap.size ≤ lo ∧ hi ≤ wx.heap.size ∧ Below wh0.heap.size wh0 wx)
    case first =>
      have hp := (Below.refl wh0.heap.size wh0).drew
      refine F_start 12 (fun w' => w'.cell? ⟨w.heap.size, 0, none⟩ = some (.slice A0 n0 c0) ∧ w'.cell? ⟨w.heap.size, 1, none⟩ = some (.slice B0 m0 d0) ∧ w'.cell? ⟨w.heap.size + 1, 0, none⟩ = some (.int .i64 a.start) ∧ w'.cell? ⟨w.heap.size + 1, 1, none⟩ = some (.slice A1 n1 c1) ∧ w'.cell? ⟨w.heap.size + 1, 2, none⟩ = some (.slice B1 m1 d1) ∧ w'.cell? ⟨br, 0, none⟩ = some (.int .i64 V.1) ∧ w'.cell? ⟨br, 1, none⟩ = some (.slice RA RN RC) ∧ w'.cell? ⟨wg.heap.size, 0, none⟩ = some (.int .i64 V.1) ∧ w'.cell? ⟨wg.heap.size, 1, none⟩ = some (.slice GA GN GC)) (by kernel_rfl) (by exact ⟨y0_0, y0_1, y1_0, y1_1, y1_2, y2_0, y2_1, y5_0, y5_1⟩) (fun hS inv => ?_)
      refine F_take (i := 0) (v := ?_) rfl (by kernel_rfl) (by kernel_rfl) (by kernel_rfl) (fun _ _ _ h => h) inv (Or.inl ⟨by rfl, ?_⟩) (by assumption) (fun invn => ?_)
      rotate_left
      · (intro w hSw; (try dsimp only at hSw); go_simp; try with_reducible rfl)
      try simp only [List.getElem_toArray, List.getElem_cons_zero, List.getElem_cons_succ, Act.put, List.setIfInBounds_toArray, List.set_cons_zero, List.set_cons_succ]
      clear inv
      have inv := invn
      clear invn
      refine F_take (i := 2) (v := ?_) rfl (by kernel_rfl) (by kernel_rfl) (by kernel_rfl) (fun _ _ _ h => h) inv (Or.inl ⟨by rfl, ?_⟩) (by assumption) (fun invn => ?_)
      rotate_left
      · (intro w hSw; (try dsimp only at hSw); go_simp; try with_reducible rfl)
      try simp only [List.getElem_toArray, List.getElem_cons_zero, List.getElem_cons_succ, Act.put, List.setIfInBounds_toArray, List.set_cons_zero, List.set_cons_succ]
      clear inv
      have inv := invn
      clear invn
      refine F_take (i := 4) (v := ?_) rfl (by kernel_rfl) (by kernel_rfl) (by kernel_rfl) (fun _ _ _ h => h) inv (Or.inl ⟨by rfl, ?_⟩) (by assumption) (fun invn => ?_)
      rotate_left
      · (intro w hSw; (try dsimp only at hSw); go_simp; try with_reducible rfl)
      try simp only [List.getElem_toArray, List.getElem_cons_zero, List.getElem_cons_succ, Act.put, List.setIfInBounds_toArray, List.set_cons_zero, List.set_cons_succ]
      clear inv
      have inv := invn
      clear invn
      refine F_take (i := 5) (v := ?_) rfl (by kernel_rfl) (by kernel_rfl) (by kernel_rfl) (fun _ _ _ h => h) inv (Or.inl ⟨by rfl, ?_⟩) (by assumption) (fun invn => ?_)
      rotate_left
      · (intro w hSw; (try dsimp only at hSw); go_simp; try with_reducible rfl)
      try simp only [List.getElem_toArray, List.getElem_cons_zero, List.getElem_cons_succ, Act.put, List.setIfInBounds_toArray, List.set_cons_zero, List.set_cons_succ]
      clear inv
      have inv := invn
      clear invn
      refine F_two (i := 1) (j := 10) (by kernel_rfl) rfl rfl rfl rfl (by omega) inv (fun K hK => ?_) (fun K hK => ?_)
      all_goals (try simp only [List.getElem_toArray, List.getElem_cons_zero, List.getElem_cons_succ])
      · go_simp
        refine (toGraph_any _ g _ (hvo0.keep (below_trans hb hp)) ha0 hc0).mono ?_
        rintro e wc0b ⟨vc0b, rfl, hoc0b, hbc0b⟩
        have hp := below_trans hp hbc0b
        refine hK.out _ _ (kB9 hbc0b hS) (fun hSn invn => ?_)
        try simp only [List.getElem_toArray, List.getElem_cons_zero, List.getElem_cons_succ, Act.put, List.setIfInBounds_toArray, List.set_cons_zero, List.set_cons_succ]
        clear hK K inv hS
        have inv := invn
        have hS := hSn
        clear invn hSn
        refine F_two (i := 3) (j := 10) (by kernel_rfl) rfl rfl rfl rfl (by omega) inv (fun K hK => ?_) (fun K hK => ?_)
        all_goals (try simp only [List.getElem_toArray, List.getElem_cons_zero, List.getElem_cons_succ])
        · go_simp
          refine (toAutomaton_any _ a _ (hvo1.keep (below_trans hb hp)) ha1 hc1 HD1.out).mono ?_
          rintro e wc1b ⟨vc1b, rfl, hoc1b, hbc1b⟩
          have hp := below_trans hp hbc1b
          refine hK.out _ _ (kB9 hbc1b hS) (fun hSn invn => ?_)
          try simp only [List.getElem_toArray, List.getElem_cons_zero, List.getElem_cons_succ, Act.put, List.setIfInBounds_toArray, List.set_cons_zero, List.set_cons_succ]
          clear hK K inv hS
          have inv := invn
          have hS := hSn
          clear invn hSn
          refine F_two (i := 6) (j := 10) (by kernel_rfl) rfl rfl rfl rfl (by omega) inv (fun K hK => ?_) (fun K hK => ?_)
          all_goals (try simp only [List.getElem_toArray, List.getElem_cons_zero, List.getElem_cons_succ])
          · go_simp
            have hol := hp.size
            refine (HIM.out vc0b vc1b _ ((hoc0b.view.all (Nat.le_refl _)).keep hbc1b) (hoc1b.view.all (Nat.le_refl _))).mono ?_
            rintro e wrb ⟨vr, rfl, ⟨ss, rfl, hor⟩, hbr⟩
            have hp := below_trans hp hbr
            obtain ⟨RA, RN, RC, rfl⟩ := hor.shape
            refine hK.out _ _ (kB9 hbr hS) (fun hSn invn => ?_)
            try simp only [List.getElem_toArray, List.getElem_cons_zero, List.getElem_cons_succ, Act.put, List.setIfInBounds_toArray, List.set_cons_zero, List.set_cons_succ]
            clear hK K inv hS
            have inv := invn
            have hS := hSn
            clear invn hSn
            refine F_take (i := 7) (v := ?_) rfl (by kernel_rfl) (by kernel_rfl) (by kernel_rfl) (fun _ _ _ h => h) inv (Or.inl ⟨by rfl, ?_⟩) (by assumption) (fun invn => ?_)
            rotate_left
            · (intro w hSw; (try dsimp only at hSw); go_simp; try with_reducible rfl)
            try simp only [List.getElem_toArray, List.getElem_cons_zero, List.getElem_cons_succ, Act.put, List.setIfInBounds_toArray, List.set_cons_zero, List.set_cons_succ]
            clear inv
            have inv := invn
            clear invn
            refine F_take (i := 8) (v := ?_) rfl (by kernel_rfl) (by kernel_rfl) (by kernel_rfl) (fun _ _ _ h => h) inv (Or.inl ⟨by rfl, ?_⟩) (by assumption) (fun invn => ?_)
            rotate_left
            · (intro w hSw; (try dsimp only at hSw); go_simp; try with_reducible rfl)
            try simp only [List.getElem_toArray, List.getElem_cons_zero, List.getElem_cons_succ, Act.put, List.setIfInBounds_toArray, List.set_cons_zero, List.set_cons_succ]
            clear inv
            have inv := invn
            clear invn
            refine F_take (i := 9) (v := ?_) rfl (by kernel_rfl) (by kernel_rfl) (by kernel_rfl) (fun _ _ _ h => h) inv (Or.inl ⟨by rfl, ?_⟩) (by assumption) (fun invn => ?_)
            rotate_left
            · (intro w hSw; (try dsimp only at hSw); go_simp; try with_reducible rfl)
            try simp only [List.getElem_toArray, List.getElem_cons_zero, List.getElem_cons_succ, Act.put, List.setIfInBounds_toArray, List.set_cons_zero, List.set_cons_succ]
            clear inv
            have inv := invn
            clear invn
            have hS0 := hS
            refine F_one (i := 10) (by kernel_rfl) rfl rfl (by omega) inv (fun K hK => ?_)
            try simp only [List.getElem_toArray, List.getElem_cons_zero, List.getElem_cons_succ]
            go_simp
            refine hK.out _ _ (kA9 _ hS) (fun hSn invn => ?_)
            try simp only [List.getElem_toArray, List.getElem_cons_zero, List.getElem_cons_succ, Act.put, List.setIfInBounds_toArray, List.set_cons_zero, List.set_cons_succ]
            clear hK K inv hS
            have inv := invn
            have hS := hSn
            clear invn hSn
            refine F_one (i := 11) (by kernel_rfl) rfl rfl (by omega) inv (fun K hK => ?_)
            try simp only [List.getElem_toArray, List.getElem_cons_zero, List.getElem_cons_succ]
            go_simp
            refine hK.out _ _ (kA9 _ hS0) (fun hSn invn => ?_)
            try simp only [List.getElem_toArray, List.getElem_cons_zero, List.getElem_cons_succ, Act.put, List.setIfInBounds_toArray, List.set_cons_zero, List.set_cons_succ]
            clear hK K inv hS
            have inv := invn
            have hS := hSn
            clear invn hSn
            refine F_last (i := 12) (by kernel_rfl) rfl rfl (by omega) (by kernel_rfl) (fun K hK => ?_)
            go_simp
            refine hK _ _ ?_
            clear hK K inv hS
            go_wp2_with fail
            go_meet
            have hal := (Below.refl wrb.heap.size wrb).alloc (Nat.le_refl _) (.cells #[.int .i64 V.1, .slice RA RN RC] 34)
            exact ⟨_, _, _, RA, RN, RC, rfl, rfl, Blk.new _ _ _ _ rfl, hor.below hal (Nat.le_refl _), .inr (Nat.le_refl _), hp.size, hol, hal.size, below_trans hp hal⟩
          · go_simp
            have hbz : Blk (wc1b.alloc (.cells #[.int .i64 0, .slice none 0 0] 34)) (wc1b.heap.size) 34 #[.int .i64 0, .slice none 0 0] := Blk.new _ _ _ _ rfl
            have hba2 := (Below.refl wc1b.heap.size wc1b).alloc (Nat.le_refl _) (.cells #[.int .i64 0, .slice none 0 0] 34)
            have hbl : wh0.heap.size ≤ wc1b.heap.size := hp.size
            have hp := below_trans hp hba2
            refine hK.out _ _ (kA9 _ hS) (fun hSn invn => ?_)
            try simp only [List.getElem_toArray, List.getElem_cons_zero, List.getElem_cons_succ, Act.put, List.setIfInBounds_toArray, List.set_cons_zero, List.set_cons_succ]
            clear hK K inv hS
            have inv := invn
            have hS := hSn
            clear invn hSn
            refine F_one (i := 6) (by kernel_rfl) rfl rfl (by omega) inv (fun K hK => ?_)
            try simp only [List.getElem_toArray, List.getElem_cons_zero, List.getElem_cons_succ]
            go_simp
            have hol := hp.size
            have hlo : wc1b.heap.size + 1 ≤ _ := hbz.lt
            refine (HIM.out vc0b vc1b _ (((hoc0b.view.all (Nat.le_refl _)).keep hbc1b).keep hba2) ((hoc1b.view.all (Nat.le_refl _)).keep hba2)).mono ?_
            rintro e wrb ⟨vr, rfl, ⟨ss, rfl, hor⟩, hbr⟩
            have hp := below_trans hp hbr
            obtain ⟨RA, RN, RC, rfl⟩ := hor.shape
            refine hK.out _ _ (kB9 hbr hS) (fun hSn invn => ?_)
            try simp only [List.getElem_toArray, List.getElem_cons_zero, List.getElem_cons_succ, Act.put, List.setIfInBounds_toArray, List.set_cons_zero, List.set_cons_succ]
            clear hK K inv hS
            have inv := invn
            have hS := hSn
            clear invn hSn
            have hbz := hbz.keep hbr
            refine F_take (i := 7) (v := ?_) rfl (by kernel_rfl) (by kernel_rfl) (by kernel_rfl) (fun _ _ _ h => h) inv (Or.inl ⟨by rfl, ?_⟩) (by assumption) (fun invn => ?_)
            rotate_left
            · (intro w hSw; (try dsimp only at hSw); go_simp; try with_reducible rfl)
            try simp only [List.getElem_toArray, List.getElem_cons_zero, List.getElem_cons_succ, Act.put, List.setIfInBounds_toArray, List.set_cons_zero, List.set_cons_succ]
            clear inv
            have inv := invn
            clear invn
            refine F_take (i := 8) (v := ?_) rfl (by kernel_rfl) (by kernel_rfl) (by kernel_rfl) (fun _ _ _ h => h) inv (Or.inl ⟨by rfl, ?_⟩) (by assumption) (fun invn => ?_)
            rotate_left
            · (intro w hSw; (try dsimp only at hSw); go_simp; try with_reducible rfl)
            try simp only [List.getElem_toArray, List.getElem_cons_zero, List.getElem_cons_succ, Act.put, List.setIfInBounds_toArray, List.set_cons_zero, List.set_cons_succ]
            clear inv
            have inv := invn
            clear invn
            refine F_take (i := 9) (v := ?_) rfl (by kernel_rfl) (by kernel_rfl) (by kernel_rfl) (fun _ _ _ h => h) inv (Or.inl ⟨by rfl, ?_⟩) (by assumption) (fun invn => ?_)
            rotate_left
            · (intro w hSw; (try dsimp only at hSw); go_simp; try with_reducible rfl)
            try simp only [List.getElem_toArray, List.getElem_cons_zero, List.getElem_cons_succ, Act.put, List.setIfInBounds_toArray, List.set_cons_zero, List.set_cons_succ]
            clear inv
            have inv := invn
            clear invn
            have t0 : wrb.cell? ⟨wc1b.heap.size, 0, none⟩ = some (.int .i64 0) := hbz.cell 0
            have t1 : wrb.cell? ⟨wc1b.heap.size, 1, none⟩ = some (.slice none 0 0) := hbz.cell 1
            have f0 : wrb.frozen? ⟨wc1b.heap.size, 0, none⟩ = false := hbz.frozen 0
            have f1 : wrb.frozen? ⟨wc1b.heap.size, 1, none⟩ = false := hbz.frozen 1
            have lz : wc1b.heap.size < wrb.heap.size := hbz.lt
            have hon := Only.set2 wrb (wc1b.heap.size) (.int .i64 V.1) (.slice RA RN RC)
            have hps := hp.size
            refine F_one (i := 11) (by kernel_rfl) rfl rfl (by omega) inv (fun K hK => ?_)
            try simp only [List.getElem_toArray, List.getElem_cons_zero, List.getElem_cons_succ]
            go_simp
            refine hK.out _ _ (⟨ocell hon hS.1 (by omega) (.inl (by omega)), ocell hon hS.2.1 (by omega) (.inl (by omega)), ocell hon hS.2.2.1 (by omega) (.inl (by omega)), ocell hon hS.2.2.2.1 (by omega) (.inl (by omega)), ocell hon hS.2.2.2.2.1 (by omega) (.inl (by omega)), ocell hon hS.2.2.2.2.2.1 (by omega) (.inl (by omega)), ocell hon hS.2.2.2.2.2.2.1 (by omega) (.inl (by omega)), ocell hon hS.2.2.2.2.2.2.2.1 (by omega) (.inl (by omega)), ocell hon hS.2.2.2.2.2.2.2.2 (by omega) (.inl (by omega))⟩) (fun hSn invn => ?_)
            try simp only [List.getElem_toArray, List.getElem_cons_zero, List.getElem_cons_succ, Act.put, List.setIfInBounds_toArray, List.set_cons_zero, List.set_cons_succ]
            clear hK K inv hS
            have inv := invn
            have hS := hSn
            clear invn hSn
            refine F_last (i := 12) (by kernel_rfl) rfl rfl (by omega) (by kernel_rfl) (fun K hK => ?_)
            go_simp
            refine hK _ _ ?_
            clear hK K inv hS
            go_wp2_with fail
            go_meet
            exact ⟨wc1b.heap.size, _, _, RA, RN, RC, rfl, rfl, hbz.set2 _ _, hor.only hon (.inr hlo), .inl hlo, hbl, hol, hon.size, hp.trans (hon.below hbl hp.size)⟩
        · go_simp
          have hbz : Blk (wc0b.alloc (.cells #[.int .i64 0, .slice none 0 0] 34)) (wc0b.heap.size) 34 #[.int .i64 0, .slice none 0 0] := Blk.new _ _ _ _ rfl
          have hba1 := (Below.refl wc0b.heap.size wc0b).alloc (Nat.le_refl _) (.cells #[.int .i64 0, .slice none 0 0] 34)
          have hbl : wh0.heap.size ≤ wc0b.heap.size := hp.size
          have hp := below_trans hp hba1
          refine hK.out _ _ (kA9 _ hS) (fun hSn invn => ?_)
          try simp only [List.getElem_toArray, List.getElem_cons_zero, List.getElem_cons_succ, Act.put, List.setIfInBounds_toArray, List.set_cons_zero, List.set_cons_succ]
          clear hK K inv hS
          have inv := invn
          have hS := hSn
          clear invn hSn
          refine F_one (i := 3) (by kernel_rfl) rfl rfl (by omega) inv (fun K hK => ?_)
          try simp only [List.getElem_toArray, List.getElem_cons_zero, List.getElem_cons_succ]
          go_simp
          refine (toAutomaton_any _ a _ (hvo1.keep (below_trans hb hp)) ha1 hc1 HD1.out).mono ?_
          rintro e wc1b ⟨vc1b, rfl, hoc1b, hbc1b⟩
          have hp := below_trans hp hbc1b
          refine hK.out _ _ (kB9 hbc1b hS) (fun hSn invn => ?_)
          try simp only [List.getElem_toArray, List.getElem_cons_zero, List.getElem_cons_succ, Act.put, List.setIfInBounds_toArray, List.set_cons_zero, List.set_cons_succ]
          clear hK K inv hS
          have inv := invn
          have hS := hSn
          clear invn hSn
          have hbz := hbz.keep hbc1b
          refine F_one (i := 6) (by kernel_rfl) rfl rfl (by omega) inv (fun K hK => ?_)
          try simp only [List.getElem_toArray, List.getElem_cons_zero, List.getElem_cons_succ]
          go_simp
          have hol := hp.size
          have hlo : wc0b.heap.size + 1 ≤ _ := hbz.lt
          refine (HIM.out vc0b vc1b _ (((hoc0b.view.all (Nat.le_refl _)).keep hba1).keep hbc1b) (hoc1b.view.all (Nat.le_refl _))).mono ?_
          rintro e wrb ⟨vr, rfl, ⟨ss, rfl, hor⟩, hbr⟩
          have hp := below_trans hp hbr
          obtain ⟨RA, RN, RC, rfl⟩ := hor.shape
          refine hK.out _ _ (kB9 hbr hS) (fun hSn invn => ?_)
          try simp only [List.getElem_toArray, List.getElem_cons_zero, List.getElem_cons_succ, Act.put, List.setIfInBounds_toArray, List.set_cons_zero, List.set_cons_succ]
          clear hK K inv hS
          have inv := invn
          have hS := hSn
          clear invn hSn
          have hbz := hbz.keep hbr
          refine F_take (i := 7) (v := ?_) rfl (by kernel_rfl) (by kernel_rfl) (by kernel_rfl) (fun _ _ _ h => h) inv (Or.inl ⟨by rfl, ?_⟩) (by assumption) (fun invn => ?_)
          rotate_left
          · (intro w hSw; (try dsimp only at hSw); go_simp; try with_reducible rfl)
          try simp only [List.getElem_toArray, List.getElem_cons_zero, List.getElem_cons_succ, Act.put, List.setIfInBounds_toArray, List.set_cons_zero, List.set_cons_succ]
          clear inv
          have inv := invn
          clear invn
          refine F_take (i := 8) (v := ?_) rfl (by kernel_rfl) (by kernel_rfl) (by kernel_rfl) (fun _ _ _ h => h) inv (Or.inl ⟨by rfl, ?_⟩) (by assumption) (fun invn => ?_)
          rotate_left
          · (intro w hSw; (try dsimp only at hSw); go_simp; try with_reducible rfl)
          try simp only [List.getElem_toArray, List.getElem_cons_zero, List.getElem_cons_succ, Act.put, List.setIfInBounds_toArray, List.set_cons_zero, List.set_cons_succ]
          clear inv
          have inv := invn
          clear invn
          refine F_take (i := 9) (v := ?_) rfl (by kernel_rfl) (by kernel_rfl) (by kernel_rfl) (fun _ _ _ h => h) inv (Or.inl ⟨by rfl, ?_⟩) (by assumption) (fun invn => ?_)
          rotate_left
          · (intro w hSw; (try dsimp only at hSw); go_simp; try with_reducible rfl)
          try simp only [List.getElem_toArray, List.getElem_cons_zero, List.getElem_cons_succ, Act.put, List.setIfInBounds_toArray, List.set_cons_zero, List.set_cons_succ]
          clear inv
          have inv := invn
          clear invn
          have t0 : wrb.cell? ⟨wc0b.heap.size, 0, none⟩ = some (.int .i64 0) := hbz.cell 0
          have t1 : wrb.cell? ⟨wc0b.heap.size, 1, none⟩ = some (.slice none 0 0) := hbz.cell 1
          have f0 : wrb.frozen? ⟨wc0b.heap.size, 0, none⟩ = false := hbz.frozen 0
          have f1 : wrb.frozen? ⟨wc0b.heap.size, 1, none⟩ = false := hbz.frozen 1
          have lz : wc0b.heap.size < wrb.heap.size := hbz.lt
          have hon := Only.set2 wrb (wc0b.heap.size) (.int .i64 V.1) (.slice RA RN RC)
          have hps := hp.size
          refine F_one (i := 11) (by kernel_rfl) rfl rfl (by omega) inv (fun K hK => ?_)
          try simp only [List.getElem_toArray, List.getElem_cons_zero, List.getElem_cons_succ]
          go_simp
          refine hK.out _ _ (⟨ocell hon hS.1 (by omega) (.inl (by omega)), ocell hon hS.2.1 (by omega) (.inl (by omega)), ocell hon hS.2.2.1 (by omega) (.inl (by omega)), ocell hon hS.2.2.2.1 (by omega) (.inl (by omega)), ocell hon hS.2.2.2.2.1 (by omega) (.inl (by omega)), ocell hon hS.2.2.2.2.2.1 (by omega) (.inl (by omega)), ocell hon hS.2.2.2.2.2.2.1 (by omega) (.inl (by omega)), ocell hon hS.2.2.2.2.2.2.2.1 (by omega) (.inl (by omega)), ocell hon hS.2.2.2.2.2.2.2.2 (by omega) (.inl (by omega))⟩) (fun hSn invn => ?_)
          try simp only [List.getElem_toArray, List.getElem_cons_zero, List.getElem_cons_succ, Act.put, List.setIfInBounds_toArray, List.set_cons_zero, List.set_cons_succ]
          clear hK K inv hS
          have inv := invn
          have hS := hSn
          clear invn hSn
          refine F_last (i := 12) (by kernel_rfl) rfl rfl (by omega) (by kernel_rfl) (fun K hK => ?_)
          go_simp
          refine hK _ _ ?_
          clear hK K inv hS
          go_wp2_with fail
          go_meet
          exact ⟨wc0b.heap.size, _, _, RA, RN, RC, rfl, rfl, hbz.set2 _ _, hor.only hon (.inr hlo), .inl hlo, hbl, hol, hon.size, hp.trans (hon.below hbl hp.size)⟩
      · go_simp
        have hbz : Blk (wh0.drew.alloc (.cells #[.int .i64 0, .slice none 0 0] 34)) (wh0.heap.size) 34 #[.int .i64 0, .slice none 0 0] := Blk.new _ _ _ _ rfl
        have hba0 := (Below.refl wh0.drew.heap.size wh0.drew).alloc (Nat.le_refl _) (.cells #[.int .i64 0, .slice none 0 0] 34)
        have hbl : wh0.heap.size ≤ wh0.heap.size := hp.size
        have hp := below_trans hp hba0
        refine hK.out _ _ (kA9 _ hS) (fun hSn invn => ?_)
        try simp only [List.getElem_toArray, List.getElem_cons_zero, List.getElem_cons_succ, Act.put, List.setIfInBounds_toArray, List.set_cons_zero, List.set_cons_succ]
        clear hK K inv hS
        have inv := invn
        have hS := hSn
        clear invn hSn
        refine F_one (i := 1) (by kernel_rfl) rfl rfl (by omega) inv (fun K hK => ?_)
        try simp only [List.getElem_toArray, List.getElem_cons_zero, List.getElem_cons_succ]
        go_simp
        refine (toGraph_any _ g _ (hvo0.keep (below_trans hb hp)) ha0 hc0).mono ?_
        rintro e wc0b ⟨vc0b, rfl, hoc0b, hbc0b⟩
        have hp := below_trans hp hbc0b
        refine hK.out _ _ (kB9 hbc0b hS) (fun hSn invn => ?_)
        try simp only [List.getElem_toArray, List.getElem_cons_zero, List.getElem_cons_succ, Act.put, List.setIfInBounds_toArray, List.set_cons_zero, List.set_cons_succ]
        clear hK K inv hS
        have inv := invn
        have hS := hSn
        clear invn hSn
        have hbz := hbz.keep hbc0b
        refine F_one (i := 3) (by kernel_rfl) rfl rfl (by omega) inv (fun K hK => ?_)
        try simp only [List.getElem_toArray, List.getElem_cons_zero, List.getElem_cons_succ]
        go_simp
        refine (toAutomaton_any _ a _ (hvo1.keep (below_trans hb hp)) ha1 hc1 HD1.out).mono ?_
        rintro e wc1b ⟨vc1b, rfl, hoc1b, hbc1b⟩
        have hp := below_trans hp hbc1b
        refine hK.out _ _ (kB9 hbc1b hS) (fun hSn invn => ?_)
        try simp only [List.getElem_toArray, List.getElem_cons_zero, List.getElem_cons_succ, Act.put, List.setIfInBounds_toArray, List.set_cons_zero, List.set_cons_succ]
        clear hK K inv hS
        have inv := invn
        have hS := hSn
        clear invn hSn
        have hbz := hbz.keep hbc1b
        refine F_one (i := 6) (by kernel_rfl) rfl rfl (by omega) inv (fun K hK => ?_)
        try simp only [List.getElem_toArray, List.getElem_cons_zero, List.getElem_cons_succ]
        go_simp
        have hol := hp.size
        have hlo : wh0.heap.size + 1 ≤ _ := hbz.lt
        refine (HIM.out vc0b vc1b _ ((hoc0b.view.all (Nat.le_refl _)).keep hbc1b) (hoc1b.view.all (Nat.le_refl _))).mono ?_
        rintro e wrb ⟨vr, rfl, ⟨ss, rfl, hor⟩, hbr⟩
        have hp := below_trans hp hbr
        obtain ⟨RA, RN, RC, rfl⟩ := hor.shape
        refine hK.out _ _ (kB9 hbr hS) (fun hSn invn => ?_)
        try simp only [List.getElem_toArray, List.getElem_cons_zero, List.getElem_cons_succ, Act.put, List.setIfInBounds_toArray, List.set_cons_zero, List.set_cons_succ]
        clear hK K inv hS
        have inv := invn
        have hS := hSn
        clear invn hSn
        have hbz := hbz.keep hbr
        refine F_take (i := 7) (v := ?_) rfl (by kernel_rfl) (by kernel_rfl) (by kernel_rfl) (fun _ _ _ h => h) inv (Or.inl ⟨by rfl, ?_⟩) (by assumption) (fun invn => ?_)
        rotate_left
        · (intro w hSw; (try dsimp only at hSw); go_simp; try with_reducible rfl)
        try simp only [List.getElem_toArray, List.getElem_cons_zero, List.getElem_cons_succ, Act.put, List.setIfInBounds_toArray, List.set_cons_zero, List.set_cons_succ]
        clear inv
        have inv := invn
        clear invn
        refine F_take (i := 8) (v := ?_) rfl (by kernel_rfl) (by kernel_rfl) (by kernel_rfl) (fun _ _ _ h => h) inv (Or.inl ⟨by rfl, ?_⟩) (by assumption) (fun invn => ?_)
        rotate_left
        · (intro w hSw; (try dsimp only at hSw); go_simp; try with_reducible rfl)
        try simp only [List.getElem_toArray, List.getElem_cons_zero, List.getElem_cons_succ, Act.put, List.setIfInBounds_toArray, List.set_cons_zero, List.set_cons_succ]
        clear inv
        have inv := invn
        clear invn
        refine F_take (i := 9) (v := ?_) rfl (by kernel_rfl) (by kernel_rfl) (by kernel_rfl) (fun _ _ _ h => h) inv (Or.inl ⟨by rfl, ?_⟩) (by assumption) (fun invn => ?_)
        rotate_left
        · (intro w hSw; (try dsimp only at hSw); go_simp; try with_reducible rfl)
        try simp only [List.getElem_toArray, List.getElem_cons_zero, List.getElem_cons_succ, Act.put, List.setIfInBounds_toArray, List.set_cons_zero, List.set_cons_succ]
        clear inv
        have inv := invn
        clear invn
        have t0 : wrb.cell? ⟨wh0.heap.size, 0, none⟩ = some (.int .i64 0) := hbz.cell 0
        have t1 : wrb.cell? ⟨wh0.heap.size, 1, none⟩ = some (.slice none 0 0) := hbz.cell 1
        have f0 : wrb.frozen? ⟨wh0.heap.size, 0, none⟩ = false := hbz.frozen 0
        have f1 : wrb.frozen? ⟨wh0.heap.size, 1, none⟩ = false := hbz.frozen 1
        have lz : wh0.heap.size < wrb.heap.size := hbz.lt
        have hon := Only.set2 wrb (wh0.heap.size) (.int .i64 V.1) (.slice RA RN RC)
        have hps := hp.size
        refine F_one (i := 11) (by kernel_rfl) rfl rfl (by omega) inv (fun K hK => ?_)
        try simp only [List.getElem_toArray, List.getElem_cons_zero, List.getElem_cons_succ]
        go_simp
        refine hK.out _ _ (⟨ocell hon hS.1 (by omega) (.inl (by omega)), ocell hon hS.2.1 (by omega) (.inl (by omega)), ocell hon hS.2.2.1 (by omega) (.inl (by omega)), ocell hon hS.2.2.2.1 (by omega) (.inl (by omega)), ocell hon hS.2.2.2.2.1 (by omega) (.inl (by omega)), ocell hon hS.2.2.2.2.2.1 (by omega) (.inl (by omega)), ocell hon hS.2.2.2.2.2.2.1 (by omega) (.inl (by omega)), ocell hon hS.2.2.2.2.2.2.2.1 (by omega) (.inl (by omega)), ocell hon hS.2.2.2.2.2.2.2.2 (by omega) (.inl (by omega))⟩) (fun hSn invn => ?_)
        try simp only [List.getElem_toArray, List.getElem_cons_zero, List.getElem_cons_succ, Act.put, List.setIfInBounds_toArray, List.set_cons_zero, List.set_cons_succ]
        clear hK K inv hS
        have inv := invn
        have hS := hSn
        clear invn hSn
        refine F_last (i := 12) (by kernel_rfl) rfl rfl (by omega) (by kernel_rfl) (fun K hK => ?_)
        go_simp
        refine hK _ _ ?_
        clear hK K inv hS
        go_wp2_with fail
        go_meet
        exact ⟨wh0.heap.size, _, _, RA, RN, RC, rfl, rfl, hbz.set2 _ _, hor.only hon (.inr hlo), .inl hlo, hbl, hol, hon.size, hp.trans (hon.below hbl hp.size)⟩
    case rest =>
      obtain ⟨bh, hlo, hhi, HA, HN, HC, rfl, rfl, hbh, hoh, -, hhb, hhl, hhs, hbn⟩ := hcut
      replace y0_0 := kcell hbn y0_0
      replace y0_1 := kcell hbn y0_1
      replace y1_0 := kcell hbn y1_0
      replace y1_1 := kcell hbn y1_1
      replace y1_2 := kcell hbn y1_2
      replace y2_0 := kcell hbn y2_0
      replace y2_1 := kcell hbn y2_1
      replace y5_0 := kcell hbn y5_0
      replace y5_1 := kcell hbn y5_1
      replace l0 := Nat.lt_of_lt_of_le l0 hbn.size
      replace l1 := Nat.lt_of_lt_of_le l1 hbn.size
      replace l2 := Nat.lt_of_lt_of_le l2 hbn.size
      replace l5 := Nat.lt_of_lt_of_le l5 hbn.size
      replace hr := hr.below hbn hrs
      replace hrs := Nat.le_trans hrs hbn.size
      replace hg := hg.below hbn hgs
      replace hgs := Nat.le_trans hgs hbn.size
      have z_wc := hbn.size
      replace hb := below_trans hb hbn
      clear hbn
      have l4 := hbh.lt
      have y4_0 : wc.cell? ⟨bh, 0, none⟩ = some (.int .i64 V.1) := hbh.cell 0
      have y4_1 : wc.cell? ⟨bh, 1, none⟩ = some (.slice HA HN HC) := hbh.cell 1
      clear hbh
      go_wp2_with fail
      (refine (eqWalk_same _ _ (V) _ ⟨_, rfl, ((hoh.sl cSt_len).all hhs)⟩ ⟨_, rfl, ((hr.sl cSt_len).all hrs)⟩).mono ?_; rintro e wq2 ⟨rfl, hbn⟩)
      replace y0_0 := kcell hbn y0_0
      replace y0_1 := kcell hbn y0_1
      replace y1_0 := kcell hbn y1_0
      replace y1_1 := kcell hbn y1_1
      replace y1_2 := kcell hbn y1_2
      replace y2_0 := kcell hbn y2_0
      replace y2_1 := kcell hbn y2_1
      replace y5_0 := kcell hbn y5_0
      replace y5_1 := kcell hbn y5_1
      replace y4_0 := kcell hbn y4_0
      replace y4_1 := kcell hbn y4_1
      replace l0 := Nat.lt_of_lt_of_le l0 hbn.size
      replace l1 := Nat.lt_of_lt_of_le l1 hbn.size
      replace l2 := Nat.lt_of_lt_of_le l2 hbn.size
      replace l5 := Nat.lt_of_lt_of_le l5 hbn.size
      replace l4 := Nat.lt_of_lt_of_le l4 hbn.size
      replace hr := hr.below hbn hrs
      replace hrs := Nat.le_trans hrs hbn.size
      replace hg := hg.below hbn hgs
      replace hgs := Nat.le_trans hgs hbn.size
      have z_wq2 := hbn.size
      replace hb := below_trans hb hbn
      clear hbn
      go_wp2_with fail
      (refine (heldWalk_any _ _ V.2.length 1 _ ⟨_, rfl, ((hg.sl cSt_len).all hgs)⟩ (by omega) (by omega) (by omega)).mono ?_; rintro e wh1 ⟨rfl, hbn⟩)
      replace y0_0 := kcell hbn y0_0
      replace y0_1 := kcell hbn y0_1
      replace y1_0 := kcell hbn y1_0
      replace y1_1 := kcell hbn y1_1
      replace y1_2 := kcell hbn y1_2
      replace y2_0 := kcell hbn y2_0
      replace y2_1 := kcell hbn y2_1
      replace y5_0 := kcell hbn y5_0
      replace y5_1 := kcell hbn y5_1
      replace y4_0 := kcell hbn y4_0
      replace y4_1 := kcell hbn y4_1
      replace l0 := Nat.lt_of_lt_of_le l0 hbn.size
      replace l1 := Nat.lt_of_lt_of_le l1 hbn.size
      replace l2 := Nat.lt_of_lt_of_le l2 hbn.size
      replace l5 := Nat.lt_of_lt_of_le l5 hbn.size
      replace l4 := Nat.lt_of_lt_of_le l4 hbn.size
      replace hr := hr.below hbn hrs
      replace hrs := Nat.le_trans hrs hbn.size
      replace hg := hg.below hbn hgs
      replace hgs := Nat.le_trans hgs hbn.size
      have z_wh1 := hbn.size
      replace hb := below_trans hb hbn
      clear hbn
      have t0 : decide (1 + 2 * ((V.2.length : Nat) : Int) < 0) = false := by simp; omega
      have t1 : (1 + 2 * ((V.2.length : Nat) : Int) != 1 + 2 * ((V.2.length : Nat) : Int)) = false := by simp
      go_wp2_with fail
      clear t0 t1
      go_ret
      exact ⟨rfl, hb⟩

end Go.Proofs.Ytlhpcknpjdeebaa.fnExactLeastWitness

namespace Go.Proofs.Ytlhpcknpjdeebaa.fnExactLeastWitness
set_option linter.unusedVariables false
set_option linter.unusedSimpArgs false
open Go.ChangeShapes Go.WideShapes Go.ChangeAt Go.RowKit
/-! ### The row -/
theorem own : ownKnob Try.prog.godebug = none := by kernel_rfl
theorem laidOut : laidOutB Try.prog = true := by kernel_rfl
set_option maxRecDepth 100000 in
theorem lifted (os : Os) (started : os.Started) (H : Type) (enc : TypeId × Value → H) :
    ReturnsInHanded {} Try.checked os 5 .any (Rows.fnExactLeastWitnessSpec.pre6 enc Try.prog Try.f5 Rows.fnExactLeastWitnessRow.domain false) (Rows.fnExactLeastWitnessSpec.post enc Try.prog Try.f5 false true false false) := by
  refine returnsInHanded_of_change (C := Try.checked) own started (by kernel_rfl) Try.func5
    (ChangeSpec.witness6 (enc := enc) (C := Try.checked) false ⟨#[], #[.agg #[.slice none 0 0, .slice none 0 0], .agg #[.int .i64 0, .slice none 0 0, .slice none 0 0], .int .i64 0, .int .i64 0], []⟩ 8 (by kernel_rfl) (by kernel_rfl) (by kernel_rfl) (by kernel_rfl)) ?_
  intro W base args ds gs before hval0 hW hcnd _
  have hval : ∀ (j : Nat) t v, Try.f5.params[j]? = some t → args[j]? = some v → Value.okWide Try.prog W .any base t v := hval0
  have hW' := hW
  obtain ⟨p, q, hA0, hV, rfl, hfz, hnd⟩ := hW
  have hA : DataW.TrodAll enc Try.prog W 0 (fun _ => true) true Try.f5.params.toList args.toList ds p := hA0
  rw [Try.params5] at hA hval
  obtain ⟨v0, vs0, d0, ds0, p0, q0, hargs, rfl, rfl, h0, r0⟩ := trodAll_cons hA
  obtain ⟨v1, vs1, d1, ds1, p1, q1, rfl, rfl, rfl, h1, r1⟩ := trodAll_cons r0
  obtain ⟨v2, vs2, d2, ds2, p2, q2, rfl, rfl, rfl, h2, r2⟩ := trodAll_cons r1
  obtain ⟨v3, vs3, d3, ds3, p3, q3, rfl, rfl, rfl, h3, r3⟩ := trodAll_cons r2
  obtain ⟨rfl, rfl, rfl⟩ := trodAll_nil r3
  obtain rfl : args = #[v0, v1, v2, v3] := by cases args; simp_all
  obtain ⟨rfl, rfl⟩ := trodVars_none hV
  obtain ⟨a0, w0⟩ := openGraph (hval 0 25 v0 rfl rfl) h0
  obtain ⟨a1, w1⟩ := openAutomaton (hval 1 29 v1 rfl rfl) h1
  obtain ⟨a2, rfl, rfl, rfl, w2⟩ := open_int Try.underlying3 (hval 2 3 v2 rfl rfl) h2
  obtain ⟨a3, rfl, rfl, rfl, w3⟩ := open_int Try.underlying3 (hval 3 3 v3 rfl rfl) h3
  refine (walk W v0 a0 w0 v1 a1 w1 a2 w2 a3 w3).mono fun e W' ⟨he, hb⟩ => ?_
  subst he
  exact ⟨_, rfl, law_post laidOut (by kernel_rfl) rfl Try.underlying4 rfl rfl hW' hb⟩
theorem unf : Try.pinned.checked.prog.unfollowed 5 = false := by kernel_rfl
theorem inpl : Try.pinned.checked.prog.inPlace 5 = [] := by kernel_rfl
theorem vnam : Try.pinned.checked.prog.varsNamed 5 = [] := by kernel_rfl
theorem rec_ : Try.pinned.checked.prog.recurses 5 = true := recurses_yes 47 47 (by kernel_rfl) (by kernel_rfl) (by kernel_rfl)
theorem over : Rows.fnExactLeastWitnessRow.holds Try.pinned (OpenSpec.ofChange Rows.fnExactLeastWitnessSpec) :=
  OpenClaim.holds_of_wide 5 Try.f5 rfl rfl rfl rfl rfl rfl rfl ⟨rfl, rfl, rfl, rfl, rfl⟩ rfl rfl rfl rfl rfl (by kernel_rfl) Try.func5 (by unfold joinedFacts; rw [seat_mayEnter, seat_lifts, seat_laidOut, seat_mapsRowed, unf, rec_, inpl, vnam]; kernel_rfl)
    (of_decide_eq_true (by kernel_rfl)) (by unfold Func.isWrapper; first | (rw [if_pos (by decide +kernel)]; kernel_rfl) | (rw [if_neg (by decide +kernel)]; exact ⟨rfl, rfl⟩))
    (fun os started H enc _ => lifted os started H enc)
theorem proved : Rows.FnExactLeastWitnessSaid := over
end Go.Proofs.Ytlhpcknpjdeebaa.fnExactLeastWitness

