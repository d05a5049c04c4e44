/- 'laws.FnDistances' returns true for every list of bytes, without any condition: the shortest length is the least sum of a distance from the source and a distance to the target, and every depth has a meeting point. -/
import Derived.Test.YtallglnmeeahiaaGreatOnlyGCIPIEML
import Derived.Test.YtallglnmeeahiaaGreatOnlyDEGJKGJL
import Derived.Test.YtallglnmeeahiaaGreatOnlyMMKENMPM
import Derived.Test.YtallglnmeeahiaaGreatOnlyJODPBNNK
import Derived.Deep.CutBlock
import Derived.Deep.DeepCutAuto
namespace Go.Proofs.YtallglnmeeahiaaGreat.fnDistances
set_option linter.unusedVariables false
set_option linter.unusedSimpArgs false
open Go.ChangeShapes Go.WideShapes Go.ChangeAt Go.RowKit
attribute [local go_sem] ext_cell ext_frozen ext_lt ext_lt1 ext_lt2 ext_lt3 ltn2 ltn3 ltn13 lts1 lts2 lts3
theorem leastL_eq (g : Gr) (a : Au) (x y : Int) {kf kb : Nat} (hf : kf = (distFrom g a x).length) (hb : kb = (distTo g a y).length) {i : Nat} (h : (i = kf ∧ kb = kf) ∨ (kb ≠ kf ∧ i = 0)) : leastF (distFrom g a x) (distTo g a y) i = shortLen g a x y := by
  rw [← least_short, leastL]
  rcases h with ⟨rfl, h⟩ | ⟨h, rfl⟩
  · rw [if_pos (by omega), hf]
  · rw [if_neg (by omega)]; rfl
theorem tab_at {g : Gr} {a : Au} {x y : Nat} {xs : List Int} {k : Nat} (hk : k = (tabL g a).length) (hx : (tabL g a)[x]? = some xs) (hy : y < k) : xs[y]? = some (shortLen g a (x : Int) (y : Int)) := by
  rw [tabL] at hk hx
  split at hk
  · rename_i hc
    rw [if_pos hc] at hx
    rw [tabTo_len] at hk
    rw [tabTo, List.getElem?_map] at hx
    have hlt : x < g.vals.length := by
      rcases Nat.lt_or_ge x g.vals.length with h | h
      · exact h
      · rw [List.getElem?_eq_none (by simpa using h)] at hx; cases hx
    rw [List.getElem?_range hlt] at hx
    simp only [Option.map_some, Option.some.injEq] at hx
    rw [← hx, tabRow, List.getElem?_map, List.getElem?_range (by omega)]
    rfl
  · rw [hk] at hy; exact absurd hy (Nat.not_lt_zero _)
set_option maxRecDepth 100000 in
set_option maxHeartbeats 16000000 in
theorem walk (w : World) (v0 : Value) (bs : List Int) (hv0 : SlI 0 w.heap.size w cU 1 v0 bs) :
    Calls Tryz.prog 3 #[v0] w fun e w' => e = .returned (.bool true) ∧ Below w.heap.size w w' := by
  have HV := Lib.hid hv0
  obtain ⟨A0, c0, rfl, hl0, hm0, -⟩ := hv0
  by_cases hbig : 1048576 < bs.length
  · go_enter Tryz.func3, Tryz.ntmps3
    go_wp2_with fail
    refine (big_yes _ _ _ _ hbig (by omega)).mono ?_
    rintro e w' ⟨rfl, rfl⟩
    go_wp2_with fail
    go_ret
    exact ⟨rfl, Below.refl _ _⟩
  go_enter Tryz.func3, Tryz.ntmps3
  go_wp2_with fail
  refine (big_no _ _ _ _ hbig).mono ?_
  rintro e w' ⟨rfl, rfl⟩
  clear hbig hl0 hm0
  go_wp2_with fail
  refine (drawMeetingPoints_any _ bs _ HV.out).mono ?_
  rintro e w1 ⟨vg, va, g, a, x, y, d, rfl, hgv, -, hav, hb1⟩
  obtain ⟨A1, n1, c1, A2, n2, c2, rfl⟩ := hgv.shape
  obtain ⟨A3, n3, c3, A4, n4, c4, rfl⟩ := hav.shape
  have hal := ((Below.refl w1.heap.size w1).alloc (Nat.le_refl _) (.cells #[.slice A1 n1 c1, .slice A2 n2 c2] 27)).alloc (by simp) (.cells #[.int .i64 a.start, .slice A3 n3 c3, .slice A4 n4 c4] 31)
  have bg := (Blk.new w1 27 #[.slice A1 n1 c1, .slice A2 n2 c2] _ rfl).alloc (.cells #[.int .i64 a.start, .slice A3 n3 c3, .slice A4 n4 c4] 31)
  have ba := Blk.new (w1.alloc (.cells #[.slice A1 n1 c1, .slice A2 n2 c2] 27)) 31 #[.int .i64 a.start, .slice A3 n3 c3, .slice A4 n4 c4] (w1.heap.size + 1) (by simp)
  have HGV := Lib.hid (hgv.keep hal)
  have HAV := Lib.hid (hav.keep hal)
  have HB := Lib.hid (below_trans hb1 hal)
  clear hal hgv hav hb1 HV
  go_upto_region 4 with fail
  generalize ((w1.alloc (.cells #[.slice A1 n1 c1, .slice A2 n2 c2] 27)).alloc (.cells #[.int .i64 a.start, .slice A3 n3 c3, .slice A4 n4 c4] 31)) = W at *
  have x0 : W.cell? ⟨w1.heap.size, 0, none⟩ = some (.slice A1 n1 c1) := by exact bg.cell 0
  have x1 : W.cell? ⟨w1.heap.size, 1, none⟩ = some (.slice A2 n2 c2) := by exact bg.cell 1
  have y0 : W.cell? ⟨w1.heap.size + 1, 0, none⟩ = some (.int .i64 a.start) := by exact ba.cell 0
  have y1 : W.cell? ⟨w1.heap.size + 1, 1, none⟩ = some (.slice A3 n3 c3) := by exact ba.cell 1
  have y2 : W.cell? ⟨w1.heap.size + 1, 2, none⟩ = some (.slice A4 n4 c4) := by exact ba.cell 2
  clear bg ba
  go_wp2_with fail
  refine (implMeetingPoints _ _ g a x y d _ HGV.out HAV.out).mono ?_
  rintro e w2 ⟨vl, rfl, hol, hb2⟩
  obtain ⟨A5, k5, c5, rfl⟩ := hol.shape
  have HLM := Lib.hid ((hol.sl cI_len).all (Nat.le_refl _))
  have HGV := Lib.hid (HGV.out.keep hb2)
  have HAV := Lib.hid (HAV.out.keep hb2)
  have HB := Lib.hid (below_trans HB.out hb2)
  have x0 := kcell hb2 x0
  have x1 := kcell hb2 x1
  have y0 := kcell hb2 y0
  have y1 := kcell hb2 y1
  have y2 := kcell hb2 y2
  clear hol hb2
  go_wp2_with fail
  refine (specMeetingPoints _ _ g a x y d _ HGV.out HAV.out).mono ?_
  rintro e w3 ⟨vm, rfl, hom, hb3⟩
  have HM := Lib.hid ((hom.sl cI_len).all (Nat.le_refl _))
  have HLM := Lib.hid (SlE.keep HLM.out hb3)
  have HGV := Lib.hid (HGV.out.keep hb3)
  have HAV := Lib.hid (HAV.out.keep hb3)
  have HB := Lib.hid (below_trans HB.out hb3)
  have x0 := kcell hb3 x0
  have x1 := kcell hb3 x1
  have y0 := kcell hb3 y0
  have y1 := kcell hb3 y1
  have y2 := kcell hb3 y2
  clear hom hb3
  go_wp2_with fail
  refine (sameInts_same _ _ (meetL g a x y d) _ HLM.out HM.out).mono ?_
  rintro e w4 ⟨rfl, hb4⟩
  have HGV := Lib.hid (HGV.out.keep hb4)
  have HAV := Lib.hid (HAV.out.keep hb4)
  have HB := Lib.hid (below_trans HB.out hb4)
  have x0 := kcell hb4 x0
  have x1 := kcell hb4 x1
  have y0 := kcell hb4 y0
  have y1 := kcell hb4 y1
  have y2 := kcell hb4 y2
  have HLN := Lib.hid (show k5 = (meetL g a x y d).length by obtain ⟨A', c', e, h, -⟩ := HLM.out; injection e with e1 e2 e3)
  clear hb4 HM HLM
  go_wp2_with fail
  refine (implShortestLength _ _ g a x y _ HGV.out HAV.out).mono ?_
  rintro e w5 ⟨rfl, hb5⟩
  have HGV := Lib.hid (HGV.out.keep hb5)
  have HAV := Lib.hid (HAV.out.keep hb5)
  have HB := Lib.hid (below_trans HB.out hb5)
  have x0 := kcell hb5 x0
  have x1 := kcell hb5 x1
  have y0 := kcell hb5 y0
  have y1 := kcell hb5 y1
  have y2 := kcell hb5 y2
  clear hb5
  go_wp2_with fail
  refine (implDistancesFrom _ _ g a x _ HGV.out HAV.out).mono ?_
  rintro e w6 ⟨vf, rfl, hof, hb6⟩
  obtain ⟨A6, kf, c6, rfl⟩ := hof.shape
  have HFL := Lib.hid ((hof.sl cI_len).all (Nat.le_refl _))
  have HGV := Lib.hid (HGV.out.keep hb6)
  have HAV := Lib.hid (HAV.out.keep hb6)
  have HB := Lib.hid (below_trans HB.out hb6)
  have x0 := kcell hb6 x0
  have x1 := kcell hb6 x1
  have y0 := kcell hb6 y0
  have y1 := kcell hb6 y1
  have y2 := kcell hb6 y2
  clear hof hb6
  go_wp2_with fail
  refine (implDistancesTo _ _ g a y _ HGV.out HAV.out).mono ?_
  rintro e w7 ⟨vb, rfl, hob, hb7⟩
  obtain ⟨A7, kb, c7, rfl⟩ := hob.shape
  have HTL := Lib.hid ((hob.sl cI_len).all (Nat.le_refl _))
  have HFL := Lib.hid (SlE.keep HFL.out hb7)
  have HGV := Lib.hid (HGV.out.keep hb7)
  have HAV := Lib.hid (HAV.out.keep hb7)
  have HB := Lib.hid (below_trans HB.out hb7)
  have x0 := kcell hb7 x0
  have x1 := kcell hb7 x1
  have y0 := kcell hb7 y0
  have y1 := kcell hb7 y1
  have y2 := kcell hb7 y2
  clear hob hb7
  go_wp2_with fail
  refine (specDistancesTo _ _ g a y _ HGV.out HAV.out).mono ?_
  rintro e w8 ⟨vb2, rfl, hob, hb8⟩
  have HM := Lib.hid ((hob.sl cI_len).all (Nat.le_refl _))
  have HTL := Lib.hid (SlE.keep HTL.out hb8)
  have HFL := Lib.hid (SlE.keep HFL.out hb8)
  have HGV := Lib.hid (HGV.out.keep hb8)
  have HAV := Lib.hid (HAV.out.keep hb8)
  have HB := Lib.hid (below_trans HB.out hb8)
  have x0 := kcell hb8 x0
  have x1 := kcell hb8 x1
  have y0 := kcell hb8 y0
  have y1 := kcell hb8 y1
  have y2 := kcell hb8 y2
  clear hob hb8
  go_wp2_with fail
  refine (sameInts_same _ _ (distTo g a y) _ HTL.out HM.out).mono ?_
  rintro e w9 ⟨rfl, hb9⟩
  have HTL := Lib.hid (SlE.keep HTL.out hb9)
  have HFL := Lib.hid (SlE.keep HFL.out hb9)
  have HGV := Lib.hid (HGV.out.keep hb9)
  have HAV := Lib.hid (HAV.out.keep hb9)
  have HB := Lib.hid (below_trans HB.out hb9)
  have x0 := kcell hb9 x0
  have x1 := kcell hb9 x1
  have y0 := kcell hb9 y0
  have y1 := kcell hb9 y1
  have y2 := kcell hb9 y2
  have HKF := Lib.hid (show kf = (distFrom g a x).length by obtain ⟨A', c', e, h, -⟩ := HFL.out; injection e with e1 e2 e3)
  have HKB := Lib.hid (show kb = (distTo g a y).length by obtain ⟨A', c', e, h, -⟩ := HTL.out; injection e with e1 e2 e3)
  have h60 : kf ≤ 60 := by rw [HKF.out]; exact distFrom_le g a x
  clear hb9 HM
  go_upto_block 0 with fail
  go_cut [12] (fun s12 wx => s12 = .int .i64 (shortLen g a x y) ∧ Below w9.heap.size w9 wx)
  case first =>
    go_wp2_with fail
    go_loopw [12, 13] (fun ll ii wr => ∃ i : Nat, i ≤ kf ∧ ii = .int .i64 (i : Int) ∧ ll = .int .i64 (leastF (distFrom g a x) (distTo g a y) i) ∧ (kb ≠ kf → i = 0) ∧ Below w9.heap.size w9 wr) (fun _ ii _ => kf - (intOf ii).toNat)
    case atStart => exact ⟨0, Nat.zero_le _, rfl, rfl, fun _ => rfl, Below.refl _ _⟩
    case round =>
      obtain ⟨i, hi, rfl, rfl, hne, hbr⟩ := hrel
      by_cases hlen : kb = kf
      · subst hlen
        clear hne
        by_cases hlt : i < kb
        · obtain ⟨b1, o1, rfl, -, hb1, f1⟩ := HFL.out.intI (getD_of (D := distFrom g a x) (k := i) (by rw [← HKF.out]; exact hlt))
          obtain ⟨b2, o2, rfl, -, hb2, f2⟩ := HTL.out.intI (getD_of (D := distTo g a y) (k := i) (by rw [← HKB.out]; exact hlt))
          have f1 := kcell hbr f1
          have f2 := kcell hbr f2
          have hii : (i : Int) < (kb : Int) := by omega
          have HNX := Lib.hid (show leastF (distFrom g a x) (distTo g a y) (i + 1) = if 0 ≤ (distFrom g a x).getD i 0 ∧ 0 ≤ (distTo g a y).getD i 0 ∧ (leastF (distFrom g a x) (distTo g a y) i < 0 ∨ (distFrom g a x).getD i 0 + (distTo g a y).getD i 0 < leastF (distFrom g a x) (distTo g a y) i) then (distFrom g a x).getD i 0 + (distTo g a y).getD i 0 else leastF (distFrom g a x) (distTo g a y) i from rfl)
          have hbd1 := dist_bound g a x i
          have hbd2 := distTo_bound g a y i
          generalize leastF (distFrom g a x) (distTo g a y) i = LS at *
          generalize (distFrom g a x).getD i 0 = fi at *
          generalize (distTo g a y).getD i 0 = ti at *
          have q1 : IntKind.i64.wrap (fi + ti) = fi + ti := IntWalk.i64_in _ (by omega)
          by_cases h1 : 0 ≤ fi
          · have e1 : decide (fi ≥ 0) = true := by simpa using h1
            by_cases h2 : 0 ≤ ti
            · have e2 : decide (ti ≥ 0) = true := by simpa using h2
              by_cases h3 : LS < 0
              · have e3 : decide (LS < 0) = true := by simpa using h3
                go_wp2_with fail
                go_region
                go_wp2_with fail
                go_region
                go_wp2_with fail
                go_roundw
                case rel => exact ⟨i + 1, by omega, by go_num, by rw [HNX.out, if_pos (by omega)], fun h => absurd rfl h, hbr.drew.drew⟩
                case measure => simp [intOf]; omega
              · have e3 : decide (LS < 0) = false := by simpa using h3
                by_cases h4 : fi + ti < LS
                · have e4 : decide (fi + ti < LS) = true := by simpa using h4
                  go_wp2_with fail
                  go_region
                  go_wp2_with fail
                  go_region
                  go_wp2_with fail
                  go_roundw
                  case rel => exact ⟨i + 1, by omega, by go_num, by rw [HNX.out, if_pos (by omega)], fun h => absurd rfl h, hbr.drew.drew⟩
                  case measure => simp [intOf]; omega
                · have e4 : decide (fi + ti < LS) = false := by simpa using h4
                  go_wp2_with fail
                  go_region
                  go_wp2_with fail
                  go_roundw
                  case rel => exact ⟨i + 1, by omega, by go_num, by rw [HNX.out, if_neg (fun h => by omega)], fun h => absurd rfl h, hbr.drew⟩
                  case measure => simp [intOf]; omega
            · have e2 : decide (ti ≥ 0) = false := by simp; omega
              go_wp2_with fail
              go_region
              go_wp2_with fail
              go_roundw
              case rel => exact ⟨i + 1, by omega, by go_num, by rw [HNX.out, if_neg (fun h => by omega)], fun h => absurd rfl h, hbr.drew⟩
              case measure => simp [intOf]; omega
          · have e1 : decide (fi ≥ 0) = false := by simp; omega
            go_wp2_with fail
            go_region
            go_wp2_with fail
            go_roundw
            case rel => exact ⟨i + 1, by omega, by go_num, by rw [HNX.out, if_neg (fun h => by omega)], fun h => absurd rfl h, hbr.drew⟩
            case measure => simp [intOf]; omega
        · obtain rfl : i = kb := by omega
          have HSL := Lib.hid (leastL_eq g a x y HKF.out HKB.out (i := _) (.inl ⟨rfl, rfl⟩))
          go_wp2_with fail
          go_meet
          exact ⟨by rw [HSL.out], hbr⟩
      · have HI0 := Lib.hid (hne hlen)
        have hbe : ((kb : Int) == (kf : Int)) = false := by rw [beq_eq_false_iff_ne]; omega
        clear hne
        by_cases hlt : i < kf
        · have hii : (i : Int) < (kf : Int) := by omega
          have HSL := Lib.hid (leastL_eq g a x y HKF.out HKB.out (i := _) (.inr ⟨hlen, HI0.out⟩))
          go_wp2_with fail
          go_meet
          exact ⟨by rw [HSL.out], hbr⟩
        · obtain rfl : i = kf := by omega
          have HSL := Lib.hid (leastL_eq g a x y HKF.out HKB.out (i := _) (.inr ⟨hlen, HI0.out⟩))
          go_wp2_with fail
          go_meet
          exact ⟨by rw [HSL.out], hbr⟩
  case rest =>
    obtain ⟨rfl, hbr⟩ := hcut
    replace x0 := kcell hbr x0
    replace x1 := kcell hbr x1
    replace y0 := kcell hbr y0
    replace y1 := kcell hbr y1
    replace y2 := kcell hbr y2
    have HGV := Lib.hid (HGV.out.keep hbr)
    have HAV := Lib.hid (HAV.out.keep hbr)
    have HB := Lib.hid (below_trans HB.out hbr)
    clear hbr HFL HTL
    go_wp2_with fail
    refine (implDistanceTable _ _ g a _ HGV.out HAV.out).mono ?_
    rintro e w10 ⟨vt, us, rfl, hot, hb10⟩
    have HTS := Lib.hid (show SSE 0 w10.heap.size w10 cI 1 vt (tabL g a) from hot.toSSE.mono (Nat.zero_le _) (Nat.le_refl _))
    obtain ⟨A9, c9, rfl, hl9, hm9⟩ := HTS.out.shape
    obtain ⟨kt, hkt⟩ : ∃ kt, kt = (tabL g a).length := ⟨_, rfl⟩
    rw [← hkt] at HTS hl9 ⊢
    have HKT := Lib.hid hkt
    have HGV := Lib.hid (HGV.out.keep hb10)
    have HAV := Lib.hid (HAV.out.keep hb10)
    have HB := Lib.hid (below_trans HB.out hb10)
    have x0 := kcell hb10 x0
    have x1 := kcell hb10 x1
    have y0 := kcell hb10 y0
    have y1 := kcell hb10 y1
    have y2 := kcell hb10 y2
    clear hot hb10 hkt
    go_wp2_with fail
    refine F_start 14 (fun w' => w'.cell? ⟨w1.heap.size, 0, none⟩ = some (.slice A1 n1 c1) ∧ w'.cell? ⟨w1.heap.size, 1, none⟩ = some (.slice A2 n2 c2) ∧ w'.cell? ⟨w1.heap.size + 1, 0, none⟩ = some (.int .i64 a.start) ∧ w'.cell? ⟨w1.heap.size + 1, 1, none⟩ = some (.slice A3 n3 c3) ∧ w'.cell? ⟨w1.heap.size + 1, 2, none⟩ = some (.slice A4 n4 c4)) (by kernel_rfl) (by exact ⟨x0, x1, y0, y1, y2⟩) (fun hS inv => ?_)
    refine F_take (i := 0) (v := ?_) rfl (by kernel_rfl) (by kernel_rfl) (by kernel_rfl) (fun _ _ _ h => h) inv (Or.inl ⟨by rfl, ?_⟩) (by assumption) (fun invn => ?_)
    rotate_left
    · (intro w hSw; (try dsimp only at hSw); go_simp; try with_reducible rfl)
    try simp only [List.getElem_toArray, List.getElem_cons_zero, List.getElem_cons_succ, Act.put, List.setIfInBounds_toArray, List.set_cons_zero, List.set_cons_succ]
    clear inv
    have inv := invn
    clear invn
    refine F_take (i := 1) (v := ?_) rfl (by kernel_rfl) (by kernel_rfl) (by kernel_rfl) (fun _ _ _ h => h) inv (Or.inl ⟨by rfl, ?_⟩) (by assumption) (fun invn => ?_)
    rotate_left
    · (intro w hSw; (try dsimp only at hSw); go_simp; try with_reducible rfl)
    try simp only [List.getElem_toArray, List.getElem_cons_zero, List.getElem_cons_succ, Act.put, List.setIfInBounds_toArray, List.set_cons_zero, List.set_cons_succ]
    clear inv
    have inv := invn
    clear invn
    refine F_take (i := 2) (v := ?_) rfl (by kernel_rfl) (by kernel_rfl) (by kernel_rfl) (fun _ _ _ h => h) inv (Or.inl ⟨by rfl, ?_⟩) (by assumption) (fun invn => ?_)
    rotate_left
    · (intro w hSw; (try dsimp only at hSw); go_simp; try with_reducible rfl)
    try simp only [List.getElem_toArray, List.getElem_cons_zero, List.getElem_cons_succ, Act.put, List.setIfInBounds_toArray, List.set_cons_zero, List.set_cons_succ]
    clear inv
    have inv := invn
    clear invn
    have hd := (Below.refl w10.heap.size w10).drew
    have HGV := Lib.hid (HGV.out.keep hd)
    have HAV := Lib.hid (HAV.out.keep hd)
    have HB := Lib.hid (below_trans HB.out hd)
    have HTS := Lib.hid (HTS.out.keep (w' := w10.drew) hd)
    clear x0 x1 y0 y1 y2 hd
    refine F_one (i := 3) (by kernel_rfl) rfl rfl (by omega) inv (fun K hK => ?_)
    try simp only [List.getElem_toArray, List.getElem_cons_zero, List.getElem_cons_succ]
    go_simp
    refine (specDistanceTable _ _ g a _ HGV.out HAV.out).mono ?_
    rintro e w11 ⟨vt2, us2, rfl, hot, hb11⟩
    refine hK.out _ _ (kB5 hb11 hS) (fun hSn invn => ?_)
    try simp only [List.getElem_toArray, List.getElem_cons_zero, List.getElem_cons_succ, Act.put, List.setIfInBounds_toArray, List.set_cons_zero, List.set_cons_succ]
    clear hK K inv hS
    have inv := invn
    have hS := hSn
    clear invn hSn
    have HTQ := Lib.hid (show SSE 0 w11.heap.size w11 cI 1 vt2 (tabL g a) from hot.toSSE.mono (Nat.zero_le _) (Nat.le_refl _))
    have HTS := Lib.hid (HTS.out.keep hb11)
    have HGV := Lib.hid (HGV.out.keep hb11)
    have HAV := Lib.hid (HAV.out.keep hb11)
    have HB := Lib.hid (below_trans HB.out hb11)
    clear hot hb11
    refine F_one (i := 4) (by kernel_rfl) rfl rfl (by omega) inv (fun K hK => ?_)
    try simp only [List.getElem_toArray, List.getElem_cons_zero, List.getElem_cons_succ]
    go_simp
    refine (sameRows_same _ _ (tabL g a) _ HTS.out HTQ.out).mono ?_
    rintro e w12 ⟨rfl, hb12⟩
    refine hK.out _ _ (kB5 hb12 hS) (fun hSn invn => ?_)
    try simp only [List.getElem_toArray, List.getElem_cons_zero, List.getElem_cons_succ, Act.put, List.setIfInBounds_toArray, List.set_cons_zero, List.set_cons_succ]
    clear hK K inv hS
    have inv := invn
    have hS := hSn
    clear invn hSn
    have HTS := Lib.hid (HTS.out.keep hb12)
    have HGV := Lib.hid (HGV.out.keep hb12)
    have HAV := Lib.hid (HAV.out.keep hb12)
    have HB := Lib.hid (below_trans HB.out hb12)
    clear hb12 HTQ
    refine F_take (i := 5) (v := ?_) rfl (by kernel_rfl) (by kernel_rfl) (by kernel_rfl) (fun _ _ _ h => h) inv (Or.inl ⟨by rfl, ?_⟩) (by assumption) (fun invn => ?_)
    rotate_left
    · (intro w hSw; (try dsimp only at hSw); go_simp; try with_reducible rfl)
    try simp only [List.getElem_toArray, List.getElem_cons_zero, List.getElem_cons_succ, Act.put, List.setIfInBounds_toArray, List.set_cons_zero, List.set_cons_succ]
    clear inv
    have inv := invn
    clear invn
    refine F_take (i := 6) (v := ?_) rfl (by kernel_rfl) (by kernel_rfl) (by kernel_rfl) (fun _ _ _ h => h) inv (Or.inl ⟨by rfl, ?_⟩) (by assumption) (fun invn => ?_)
    rotate_left
    · (intro w hSw; (try dsimp only at hSw); go_simp; try with_reducible rfl)
    try simp only [List.getElem_toArray, List.getElem_cons_zero, List.getElem_cons_succ, Act.put, List.setIfInBounds_toArray, List.set_cons_zero, List.set_cons_succ]
    clear inv
    have inv := invn
    clear invn
    refine F_take (i := 7) (v := ?_) rfl (by kernel_rfl) (by kernel_rfl) (by kernel_rfl) (fun _ _ _ h => h) inv (Or.inl ⟨by rfl, ?_⟩) (by assumption) (fun invn => ?_)
    rotate_left
    · (intro w hSw; (try dsimp only at hSw); go_simp; try with_reducible rfl)
    try simp only [List.getElem_toArray, List.getElem_cons_zero, List.getElem_cons_succ, Act.put, List.setIfInBounds_toArray, List.set_cons_zero, List.set_cons_succ]
    clear inv
    have inv := invn
    clear invn
    refine F_take (i := 8) (v := ?_) rfl (by kernel_rfl) (by kernel_rfl) (by kernel_rfl) (fun _ _ _ h => h) inv (Or.inl ⟨by rfl, ?_⟩) (by assumption) (fun invn => ?_)
    rotate_left
    · (intro w hSw; (try dsimp only at hSw); go_simp; try with_reducible rfl)
    try simp only [List.getElem_toArray, List.getElem_cons_zero, List.getElem_cons_succ, Act.put, List.setIfInBounds_toArray, List.set_cons_zero, List.set_cons_succ]
    clear inv
    have inv := invn
    clear invn
    refine F_take (i := 10) (v := ?_) rfl (by kernel_rfl) (by kernel_rfl) (by kernel_rfl) (fun _ _ _ h => h) inv (Or.inl ⟨by rfl, ?_⟩) (by assumption) (fun invn => ?_)
    rotate_left
    · (intro w hSw; (try dsimp only at hSw); go_simp; try with_reducible rfl)
    try simp only [List.getElem_toArray, List.getElem_cons_zero, List.getElem_cons_succ, Act.put, List.setIfInBounds_toArray, List.set_cons_zero, List.set_cons_succ]
    clear inv
    have inv := invn
    clear invn
    refine F_take (i := 11) (v := ?_) rfl (by kernel_rfl) (by kernel_rfl) (by kernel_rfl) (fun _ _ _ h => h) inv (Or.inl ⟨by rfl, ?_⟩) (by assumption) (fun invn => ?_)
    rotate_left
    · (intro w hSw; (try dsimp only at hSw); go_simp; try with_reducible rfl)
    try simp only [List.getElem_toArray, List.getElem_cons_zero, List.getElem_cons_succ, Act.put, List.setIfInBounds_toArray, List.set_cons_zero, List.set_cons_succ]
    clear inv
    have inv := invn
    clear invn
    refine F_oneH (i := 9) (by kernel_rfl) rfl (by rfl) (by omega) inv (fun K hK => ?_)
    try simp only [List.getElem_toArray, List.getElem_cons_zero, List.getElem_cons_succ]
    go_simp
    refine (implLongestShortest _ _ g a _ HGV.out HAV.out).mono ?_
    rintro e w13 ⟨rfl, hb13⟩
    refine hK.out _ _ (kB5 hb13 hS) (fun hSn invn => ?_)
    try simp only [List.getElem_toArray, List.getElem_cons_zero, List.getElem_cons_succ, Act.put, List.setIfInBounds_toArray, List.set_cons_zero, List.set_cons_succ]
    clear hK K inv hS
    have inv := invn
    have hS := hSn
    clear invn hSn
    have HTS := Lib.hid (HTS.out.keep hb13)
    have HGV := Lib.hid (HGV.out.keep hb13)
    have HAV := Lib.hid (HAV.out.keep hb13)
    have HB := Lib.hid (below_trans HB.out hb13)
    clear hb13
    refine F_oneH (i := 12) (by kernel_rfl) rfl (by rfl) (by omega) inv (fun K hK => ?_)
    try simp only [List.getElem_toArray, List.getElem_cons_zero, List.getElem_cons_succ]
    go_simp
    refine (specLongestShortest _ _ g a _ HGV.out HAV.out).mono ?_
    rintro e w14 ⟨rfl, hb14⟩
    refine hK.out _ _ (kB5 hb14 hS) (fun hSn invn => ?_)
    try simp only [List.getElem_toArray, List.getElem_cons_zero, List.getElem_cons_succ, Act.put, List.setIfInBounds_toArray, List.set_cons_zero, List.set_cons_succ]
    clear hK K inv hS
    have inv := invn
    have hS := hSn
    clear invn hSn
    have HTS := Lib.hid (HTS.out.keep hb14)
    have HB := Lib.hid (below_trans HB.out hb14)
    clear hb14 HGV HAV
    refine F_take (i := 13) (v := ?_) rfl (by kernel_rfl) (by kernel_rfl) (by kernel_rfl) (fun _ _ _ h => h) inv (Or.inl ⟨by rfl, ?_⟩) (by assumption) (fun invn => ?_)
    rotate_left
    · (intro w hSw; (try dsimp only at hSw); go_simp; try with_reducible rfl)
    try simp only [List.getElem_toArray, List.getElem_cons_zero, List.getElem_cons_succ, Act.put, List.setIfInBounds_toArray, List.set_cons_zero, List.set_cons_succ]
    clear inv
    have inv := invn
    clear invn
    refine F_last (i := 14) (by kernel_rfl) rfl rfl (by omega) (by kernel_rfl) (fun K hK => ?_)
    go_simp
    refine hK _ _ ?_
    clear hK K
    have HMS := Lib.hid (meet_some g a x y d)
    have HTA := Lib.hid (fun (xn yn : Nat) (xs : List Int) (hx : (tabL g a)[xn]? = some xs) (hy : yn < kt) => tab_at HKT.out hx hy)
    go_upto_region 21 with fail
    go_cut [162] (fun s21 wx => s21 = .bool false ∧ wx = w14)
    case first =>
      by_cases hk0 : kt = 0
      · subst hk0
        go_wp2_with fail
        go_meet
        exact ⟨rfl, rfl⟩
      · have hk1 : decide ((kt : Int) > 0) = true := by simp; omega
        by_cases hx0 : 0 ≤ x
        · by_cases hy0 : 0 ≤ y
          · obtain ⟨xn, rfl⟩ := Int.eq_ofNat_of_zero_le hx0
            obtain ⟨yn, rfl⟩ := Int.eq_ofNat_of_zero_le hy0
            by_cases hxk : xn < kt
            · by_cases hyk : yn < kt
              · have hxi : (xn : Int) < (kt : Int) := by omega
                have hyi : (yn : Int) < (kt : Int) := by omega
                obtain ⟨xs, hxs⟩ : ∃ xs, (tabL g a)[xn]? = some xs := ⟨_, List.getElem?_eq_getElem (by rw [← HKT.out]; exact hxk)⟩
                have hyy := HTA.out xn yn xs hxs hyk
                have hyl : yn < xs.length := (List.getElem?_eq_some_iff.1 hyy).1
                have hyli : (yn : Int) < (xs.length : Int) := by omega
                obtain ⟨b1, o1, B1, d1, rfl, -, hb1, r1, -, -, hR1, -⟩ := HTS.out.row (Nat.le_refl _) hxs
                obtain ⟨b2, o2, rfl, -, hb2, r2⟩ := hR1.intI hyy
                clear hxs hyy hR1
                generalize shortLen g a (xn : Int) (yn : Int) = n at *
                go_wp2_with fail
                go_meet
                exact ⟨by simp, rfl⟩
              · have hyi : decide ((yn : Int) < (kt : Int)) = false := by simp; omega
                go_wp2_with fail
                go_meet
                exact ⟨rfl, rfl⟩
            · have hxi : decide ((xn : Int) < (kt : Int)) = false := by simp; omega
              go_wp2_with fail
              go_meet
              exact ⟨rfl, rfl⟩
          · have hy1 : decide (y ≥ 0) = false := by simp; omega
            have hx1 : decide (x ≥ 0) = true := by simpa using hx0
            go_wp2_with fail
            go_meet
            exact ⟨rfl, rfl⟩
        · have hx1 : decide (x ≥ 0) = false := by simp; omega
          go_wp2_with fail
          go_meet
          exact ⟨rfl, rfl⟩
    rename_i hcut
    obtain ⟨rfl, hcw⟩ := hcut
    subst hcw
    have hms := HMS.out
    rw [← HLN.out] at hms
    generalize shortLen g a x y = n at *
    clear HTA HMS HTS
    by_cases hn0 : 0 ≤ n
    · have en : decide (n ≥ 0) = true := by simpa using hn0
      by_cases hd0 : 0 ≤ d
      · have ed : decide (d ≥ 0) = true := by simpa using hd0
        by_cases hdn : d ≤ n
        · have edn : decide (d ≤ n) = true := by simpa using hdn
          have HK5 := Lib.hid (hms.2 ⟨hn0, hd0, hdn⟩)
          have ek : decide ((k5 : Int) > 0) = true := by have := HK5.out; simp; omega
          clear hms
          go_wp2_with fail
          go_ret
          exact ⟨by have := HK5.out; simp; omega, HB.out⟩
        · have edn : decide (d ≤ n) = false := by simp; omega
          have HK5 := Lib.hid (show ¬ 0 < k5 from fun h => hdn (hms.1 h).2.2)
          have ek : decide ((k5 : Int) > 0) = false := by have := HK5.out; simp; omega
          clear hms
          go_wp2_with fail
          go_ret
          exact ⟨by have := HK5.out; simp; omega, HB.out⟩
      · have ed : decide (d ≥ 0) = false := by simp; omega
        have HK5 := Lib.hid (show ¬ 0 < k5 from fun h => hd0 (hms.1 h).2.1)
        have ek : decide ((k5 : Int) > 0) = false := by have := HK5.out; simp; omega
        clear hms
        go_wp2_with fail
        go_ret
        exact ⟨by have := HK5.out; simp; omega, HB.out⟩
    · have en : decide (n ≥ 0) = false := by simp; omega
      have HK5 := Lib.hid (show ¬ 0 < k5 from fun h => hn0 (hms.1 h).1)
      have ek : decide ((k5 : Int) > 0) = false := by have := HK5.out; simp; omega
      clear hms
      go_wp2_with fail
      go_ret
      exact ⟨by have := HK5.out; simp; omega, HB.out⟩
end Go.Proofs.YtallglnmeeahiaaGreat.fnDistances
namespace Go.Proofs.YtallglnmeeahiaaGreat.fnDistances
set_option linter.unusedVariables false
set_option linter.unusedSimpArgs false
open Go.ChangeShapes Go.WideShapes Go.ChangeAt Go.RowKit
theorem own : ownKnob Tryz.prog.godebug = none := by kernel_rfl
theorem laidOut : laidOutB Tryz.prog = true := by kernel_rfl
set_option maxRecDepth 100000 in
theorem lifted (os : Os) (started : os.Started) (H : Type) (enc : TypeId × Value → H) :
    ReturnsInHanded {} Tryz.checked os 3 .any (Rows.fnDistancesSpec.pre6 enc Tryz.prog Tryz.f3 Rows.fnDistancesRow.domain false) (Rows.fnDistancesSpec.post enc Tryz.prog Tryz.f3 false true false false) := by
  refine returnsInHanded_of_change (C := Tryz.checked) own started (by kernel_rfl) Tryz.func3
    (ChangeSpec.witness6 (enc := enc) (C := Tryz.checked) false ⟨#[], #[.slice none 0 0], []⟩ 8 (by kernel_rfl) (by kernel_rfl) (by kernel_rfl) (by kernel_rfl)) ?_
  intro W base args ds gs before hval0 hW hcnd _
  have hval : ∀ (j : Nat) t v, Tryz.f3.params[j]? = some t → args[j]? = some v → Value.okWide Tryz.prog W .any base t v := hval0
  have hW' := hW
  obtain ⟨p, q, hA0, hV, rfl, hfz, hnd⟩ := hW
  have hA : DataW.TrodAll enc Tryz.prog W 0 (fun _ => true) true Tryz.f3.params.toList args.toList ds p := hA0
  rw [Tryz.params3] at hA hval
  obtain ⟨v0, vs0, d0, ds0, p0, q0, hargs, rfl, rfl, h0, r0⟩ := trodAll_cons hA
  obtain ⟨rfl, rfl, rfl⟩ := trodAll_nil r0
  obtain rfl : args = #[v0] := by cases args; simp_all
  obtain ⟨rfl, rfl⟩ := trodVars_none hV
  obtain ⟨a0, w0⟩ := openBytes (hval 0 22 v0 rfl rfl) h0
  refine (walk W v0 a0 w0).mono fun e W' ⟨he, hb⟩ => ?_
  subst he
  exact ⟨_, rfl, law_post laidOut (by kernel_rfl) rfl Tryz.underlying4 rfl rfl hW' hb⟩
theorem over : Rows.fnDistancesRow.holds Tryz.pinned (OpenSpec.ofChange Rows.fnDistancesSpec) :=
  OpenClaim.holds_of_wide 3 Tryz.f3 rfl rfl rfl rfl rfl rfl rfl ⟨rfl, rfl, rfl, rfl, rfl⟩ rfl rfl rfl rfl rfl (by kernel_rfl) Tryz.func3 (by unfold joinedFacts; rw [seat_mayEnter, seat_lifts, seat_laidOut, seat_mapsRowed]; kernel_rfl)
    (of_decide_eq_true (by kernel_rfl)) (by unfold Func.isWrapper; first | (rw [if_pos (by decide +kernel)]; kernel_rfl) | (rw [if_neg (by decide +kernel)]; exact ⟨rfl, rfl⟩))
    (fun os started H enc _ => lifted os started H enc)
theorem proved : Rows.FnDistancesSaid := over
end Go.Proofs.YtallglnmeeahiaaGreat.fnDistances
