/- 'laws.FnMatching' returns true for every list of bytes, without any condition: a walk matches if and only if one of the states at its end accepts there, and a walk whose word is accepted matches. -/
import Derived.Test.YtallglnmeeahiaaGreatOnlyEHEILOHB
import Derived.Test.YtallglnmeeahiaaGreatOnlyDEGJKGJL
import Derived.Test.YtallglnmeeahiaaGreatOnlyGADEMEHM
import Derived.Test.YtallglnmeeahiaaGreatOnlyENBMFOAM
import Derived.Test.YtallglnmeeahiaaGreatOnlyBAKGCBEJ
import Derived.Deep.DeepCutAuto
namespace Go.Proofs.YtallglnmeeahiaaGreat.fnMatching
set_option linter.unusedVariables false
set_option linter.unusedSimpArgs false
open Go.ChangeShapes Go.WideShapes Go.ChangeAt Go.RowKit
attribute [local go_sem] ext_cell ext_frozen ext_lt ext_lt1 ext_lt2 ext_lt3 ltn2 ltn3 ltn13 lts1 lts2 lts3
/-- the first i states: whether one of them accepts -/
def foundM (g : Gr) (a : Au) (x : Nat) (L : List Nat) (i : Nat) : Bool := (L.take i).any (fun s => accC a (valAt g x) s)
theorem foundM_succ {g : Gr} {a : Au} {x : Nat} {L : List Nat} {i s : Nat} (h : L[i]? = some s) : foundM g a x L (i + 1) = (foundM g a x L i || accC a (valAt g x) s) := by
  rw [foundM, take_snoc h, List.any_append]; simp [foundM]
theorem foundM_all {g : Gr} {a : Au} {k : Wk} (hw : walkOk g k = true) (ha : auOk a = true) : foundM g a (nodeAt g k k.2.length) (mem 12 (setAt g a k k.2.length)) (mem 12 (setAt g a k k.2.length)).length = matchB g a k := by
  rw [foundM, List.take_length, matchB, hw, ha]; rfl
theorem no_match {g : Gr} {a : Au} {k : Wk} (h : (walkOk g k && auOk a) = false) : matchB g a k = false ∧ statesL g a k = [] := by
  rw [matchB, statesL, h]; exact ⟨rfl, rfl⟩
theorem states_yes {g : Gr} {a : Au} {k : Wk} (h : (walkOk g k && auOk a) = true) : (statesL g a k).length = k.2.length + 1 ∧ (statesL g a k)[k.2.length]? = some ((mem 12 (setAt g a k k.2.length)).map fun (t : Nat) => (t : Int)) := by
  rw [statesL, if_pos h]
  refine ⟨stL_len g a k _, ?_⟩
  rw [stL, List.getElem?_map, List.getElem?_range (by omega)]
  rfl
set_option maxRecDepth 100000 in
set_option maxHeartbeats 16000000 in
theorem walk (w : World) (v0 : Value) (bs : List Int) (hv0 : SlI 0 w.heap.size w cU 1 v0 bs) :
    Calls Tryz.prog 4 #[v0] w fun e w' => e = .returned (.bool true) ∧ Below w.heap.size w w' := by
  have HV := Lib.hid hv0
  obtain ⟨A0, c0, rfl, hl0, hm0, -⟩ := hv0
  by_cases hbig : 1048576 < bs.length
  · go_enter Tryz.func4, Tryz.ntmps4
    go_wp2_with fail
    refine (big_yes _ _ _ _ hbig (by omega)).mono ?_
    rintro e w' ⟨rfl, rfl⟩
    go_wp2_with fail
    go_ret
    exact ⟨rfl, Below.refl _ _⟩
  go_enter Tryz.func4, Tryz.ntmps4
  go_wp2_with fail
  refine (big_no _ _ _ _ hbig).mono ?_
  rintro e w' ⟨rfl, rfl⟩
  clear hbig hl0 hm0
  go_wp2_with fail
  refine (drawMatchesWalk_any _ bs _ HV.out).mono ?_
  rintro e w1 ⟨vg, va, vk, g, a, k, rfl, hgv, hav, hkv, hb1⟩
  obtain ⟨A1, n1, c1, A2, n2, c2, rfl⟩ := hgv.shape
  obtain ⟨A3, n3, c3, A4, n4, c4, rfl⟩ := hav.shape
  have hgv := hgv.mono (Nat.zero_le _) (Nat.le_refl _)
  have hav := hav.mono (Nat.zero_le _) (Nat.le_refl _)
  have hkv := hkv.mono (Nat.zero_le _) (Nat.le_refl _)
  obtain ⟨A5, c5, rfl, hl5, hm5, -⟩ := hkv.form
  obtain ⟨N, hN⟩ : ∃ N, N = k.2.length := ⟨_, rfl⟩
  rw [← hN] at hkv hl5 ⊢
  have HN := Lib.hid hN
  clear hN
  have hal := (((Below.refl w1.heap.size w1).alloc (Nat.le_refl _) (.cells #[.slice A1 n1 c1, .slice A2 n2 c2] 27)).alloc (by simp) (.cells #[.int .i64 a.start, .slice A3 n3 c3, .slice A4 n4 c4] 31)).alloc (by simp; omega) (.cells #[.int .i64 k.1, .slice A5 N c5] 43)
  have bg := ((Blk.new w1 27 #[.slice A1 n1 c1, .slice A2 n2 c2] _ rfl).alloc (.cells #[.int .i64 a.start, .slice A3 n3 c3, .slice A4 n4 c4] 31)).alloc (.cells #[.int .i64 k.1, .slice A5 N c5] 43)
  have ba := (Blk.new (w1.alloc (.cells #[.slice A1 n1 c1, .slice A2 n2 c2] 27)) 31 #[.int .i64 a.start, .slice A3 n3 c3, .slice A4 n4 c4] (w1.heap.size + 1) (by simp)).alloc (.cells #[.int .i64 k.1, .slice A5 N c5] 43)
  have bw := Blk.new ((w1.alloc (.cells #[.slice A1 n1 c1, .slice A2 n2 c2] 27)).alloc (.cells #[.int .i64 a.start, .slice A3 n3 c3, .slice A4 n4 c4] 31)) 43 #[.int .i64 k.1, .slice A5 N c5] (w1.heap.size + 1 + 1) (by simp)
  have HGV := Lib.hid (hgv.keep hal)
  have HAV := Lib.hid (hav.keep hal)
  have HKV := Lib.hid (hkv.keep hal)
  have HB := Lib.hid (below_trans hb1 hal)
  clear hal hgv hav hkv hb1 HV
  go_upto_region 4 with fail
  generalize (((w1.alloc (.cells #[.slice A1 n1 c1, .slice A2 n2 c2] 27)).alloc (.cells #[.int .i64 a.start, .slice A3 n3 c3, .slice A4 n4 c4] 31)).alloc (.cells #[.int .i64 k.1, .slice A5 N c5] 43)) = W at *
  have x0 : W.cell? ⟨w1.heap.size, 0, none⟩ = some (.slice A1 n1 c1) := by exact bg.cell 0
  have x1 : W.cell? ⟨w1.heap.size, 1, none⟩ = some (.slice A2 n2 c2) := by exact bg.cell 1
  have y0 : W.cell? ⟨w1.heap.size + 1, 0, none⟩ = some (.int .i64 a.start) := by exact ba.cell 0
  have y1 : W.cell? ⟨w1.heap.size + 1, 1, none⟩ = some (.slice A3 n3 c3) := by exact ba.cell 1
  have y2 : W.cell? ⟨w1.heap.size + 1, 2, none⟩ = some (.slice A4 n4 c4) := by exact ba.cell 2
  have k0 : W.cell? ⟨w1.heap.size + 1 + 1, 0, none⟩ = some (.int .i64 k.1) := by exact bw.cell 0
  have k1 : W.cell? ⟨w1.heap.size + 1 + 1, 1, none⟩ = some (.slice A5 N c5) := by exact bw.cell 1
  clear bg ba bw
  go_wp2_with fail
  refine (implMatchesWalk _ _ _ g a k _ HGV.out HAV.out HKV.out).mono ?_
  rintro e w2 ⟨rfl, hb2⟩
  have x0 := kcell hb2 x0
  have x1 := kcell hb2 x1
  have y0 := kcell hb2 y0
  have y1 := kcell hb2 y1
  have y2 := kcell hb2 y2
  have k0 := kcell hb2 k0
  have k1 := kcell hb2 k1
  have HGV := Lib.hid (HGV.out.keep hb2)
  have HAV := Lib.hid (HAV.out.keep hb2)
  have HKV := Lib.hid (HKV.out.keep hb2)
  have HB := Lib.hid (below_trans HB.out hb2)
  clear hb2
  go_wp2_with fail
  refine (implStatesAlong _ _ _ g a k _ HGV.out HAV.out HKV.out).mono ?_
  rintro e w3 ⟨vl, us, rfl, hol, hb3⟩
  have HTS := Lib.hid (show SSE 0 w3.heap.size w3 cI 1 vl (statesL g a k) from hol.toSSE.mono (Nat.zero_le _) (Nat.le_refl _))
  obtain ⟨A6, c6, rfl, hl6, hm6⟩ := HTS.out.shape
  obtain ⟨kl, hkl⟩ : ∃ kl, kl = (statesL g a k).length := ⟨_, rfl⟩
  rw [← hkl] at HTS hl6 ⊢
  have HKL := Lib.hid hkl
  have x0 := kcell hb3 x0
  have x1 := kcell hb3 x1
  have y0 := kcell hb3 y0
  have y1 := kcell hb3 y1
  have y2 := kcell hb3 y2
  have k0 := kcell hb3 k0
  have k1 := kcell hb3 k1
  have HGV := Lib.hid (HGV.out.keep hb3)
  have HAV := Lib.hid (HAV.out.keep hb3)
  have HKV := Lib.hid (HKV.out.keep hb3)
  have HB := Lib.hid (below_trans HB.out hb3)
  clear hol hb3 hkl
  go_wp2_with fail
  refine (specMatchesWalk _ _ _ g a k _ HGV.out HAV.out HKV.out).mono ?_
  rintro e w4 ⟨rfl, hb4⟩
  have HTS := Lib.hid (HTS.out.keep hb4)
  have x0 := kcell hb4 x0
  have x1 := kcell hb4 x1
  have y0 := kcell hb4 y0
  have y1 := kcell hb4 y1
  have y2 := kcell hb4 y2
  have k0 := kcell hb4 k0
  have k1 := kcell hb4 k1
  have HGV := Lib.hid (HGV.out.keep hb4)
  have HAV := Lib.hid (HAV.out.keep hb4)
  have HKV := Lib.hid (HKV.out.keep hb4)
  have HB := Lib.hid (below_trans HB.out hb4)
  clear hb4
  have hbb : (matchB g a k != matchB g a k) = false := by simp
  go_wp2_with fail
  refine (specStatesAlong _ _ _ g a k _ HGV.out HAV.out HKV.out).mono ?_
  rintro e w5 ⟨vl2, us2, rfl, hol, hb5⟩
  have HTQ := Lib.hid (show SSE 0 w5.heap.size w5 cI 1 vl2 (statesL g a k) from hol.toSSE.mono (Nat.zero_le _) (Nat.le_refl _))
  have HTS := Lib.hid (HTS.out.keep hb5)
  have x0 := kcell hb5 x0
  have x1 := kcell hb5 x1
  have y0 := kcell hb5 y0
  have y1 := kcell hb5 y1
  have y2 := kcell hb5 y2
  have k0 := kcell hb5 k0
  have k1 := kcell hb5 k1
  have HGV := Lib.hid (HGV.out.keep hb5)
  have HAV := Lib.hid (HAV.out.keep hb5)
  have HKV := Lib.hid (HKV.out.keep hb5)
  have HB := Lib.hid (below_trans HB.out hb5)
  clear hol hb5
  go_wp2_with fail
  refine (sameRows_same _ _ (statesL g a k) _ HTS.out HTQ.out).mono ?_
  rintro e w6 ⟨rfl, hb6⟩
  have HTS := Lib.hid (HTS.out.keep hb6)
  have x0 := kcell hb6 x0
  have x1 := kcell hb6 x1
  have y0 := kcell hb6 y0
  have y1 := kcell hb6 y1
  have y2 := kcell hb6 y2
  have k0 := kcell hb6 k0
  have k1 := kcell hb6 k1
  have HGV := Lib.hid (HGV.out.keep hb6)
  have HAV := Lib.hid (HAV.out.keep hb6)
  have HKV := Lib.hid (HKV.out.keep hb6)
  have HB := Lib.hid (below_trans HB.out hb6)
  clear hb6 HTQ
  go_wp2_with fail
  refine (specIsWalk _ _ g k _ HGV.out HKV.out).mono ?_
  rintro e w7 ⟨rfl, hb7⟩
  have HTS := Lib.hid (HTS.out.keep hb7)
  have x0 := kcell hb7 x0
  have x1 := kcell hb7 x1
  have y0 := kcell hb7 y0
  have y1 := kcell hb7 y1
  have y2 := kcell hb7 y2
  have k0 := kcell hb7 k0
  have k1 := kcell hb7 k1
  have HGV := Lib.hid (HGV.out.keep hb7)
  have HAV := Lib.hid (HAV.out.keep hb7)
  have HKV := Lib.hid (HKV.out.keep hb7)
  have HB := Lib.hid (below_trans HB.out hb7)
  clear hb7
  cases hw : walkOk g k with
  | false =>
    have hnm := no_match (g := g) (a := a) (k := k) (by rw [hw]; rfl)
    have hkl := HKL.out
    rw [hnm.2] at hkl
    have hm0 := hnm.1
    simp only [List.length_nil] at hkl
    subst hkl
    rw [hm0]
    clear hnm hm0
    go_wp2_with fail
    go_ret
    exact ⟨rfl, HB.out⟩
  | true =>
    go_wp2_with fail
    refine (specValidAutomaton _ a _ HAV.out).mono ?_
    rintro e w8 ⟨rfl, hb8⟩
    have HTS := Lib.hid (HTS.out.keep hb8)
    have x0 := kcell hb8 x0
    have x1 := kcell hb8 x1
    have y0 := kcell hb8 y0
    have y1 := kcell hb8 y1
    have y2 := kcell hb8 y2
    have k0 := kcell hb8 k0
    have k1 := kcell hb8 k1
    have HGV := Lib.hid (HGV.out.keep hb8)
    have HAV := Lib.hid (HAV.out.keep hb8)
    have HKV := Lib.hid (HKV.out.keep hb8)
    have HB := Lib.hid (below_trans HB.out hb8)
    clear hb8
    cases ha : auOk a with
    | false =>
      have hnm := no_match (g := g) (a := a) (k := k) (by rw [hw, ha]; rfl)
      have hkl := HKL.out
      rw [hnm.2] at hkl
      have hm0 := hnm.1
      simp only [List.length_nil] at hkl
      subst hkl
      rw [hm0]
      clear hnm hm0
      go_wp2_with fail
      go_ret
      exact ⟨rfl, HB.out⟩
    | true =>
      obtain ⟨hsl, hsa⟩ := states_yes (g := g) (a := a) (k := k) (by rw [hw, ha]; rfl)
      have hkl : kl = N + 1 := by rw [HKL.out, hsl, HN.out]
      subst hkl
      have HFA := Lib.hid (foundM_all hw ha)
      have hn60 := (walkOk_parts hw).2.2.1
      rw [← HN.out] at hn60
      have hnl := nodeAt_lt hw (Nat.le_refl _)
      have hwe : walkEnd g k = (nodeAt g k k.2.length : Int) := by rw [walkEnd, hw]; rfl
      have hgo : grOk g = true := by
        have h := hw
        simp only [walkOk, Bool.and_eq_true] at h
        exact h.1.1.1
      have HST := Lib.hid (fun s (h : s ∈ mem 12 (setAt g a k k.2.length)) => test_lt (setAt_lt ha k k.2.length) (mem_mem.1 h).2)
      have HAC := Lib.hid (fun (s : Nat) (hs : s < a.accept.length) W (hgv : GrV 0 W.heap.size W (.agg #[.slice A1 n1 c1, .slice A2 n2 c2]) g) (hav : AuV 0 W.heap.size W (.agg #[.int .i64 a.start, .slice A3 n3 c3, .slice A4 n4 c4]) a) => implAcceptsAt_ok _ _ g a (nodeAt g k k.2.length) s W hgv hav hgo ha hnl.2 hs)
      have HWE := Lib.hid (fun W (hgv : GrV 0 W.heap.size W (.agg #[.slice A1 n1 c1, .slice A2 n2 c2]) g) (hkv : WkV 0 W.heap.size W (.agg #[.int .i64 k.1, .slice A5 N c5]) k) => show Calls Tryz.prog 27 #[.agg #[.slice A1 n1 c1, .slice A2 n2 c2], .agg #[.int .i64 k.1, .slice A5 N c5]] W fun en w' => en = .returned (.int .i64 (nodeAt g k k.2.length : Int)) ∧ Below W.heap.size W w' by
        have h := specWalkEnd _ _ g k W hgv hkv
        rwa [hwe] at h)
      have HWD := Lib.hid (fun (h : accW a (wordL g k) = true) => acc_word hw ha h)
      rw [← HN.out] at hsa HFA HST HAC HWE
      have m0 : ((N + 1 : Nat) : Int) - 1 = (N : Int) := by omega
      have m1 : ((N : Int) + 1) - 1 = (N : Int) := by omega
      have m2 : IntKind.i64.wrap ((N : Int) + 1) = (N : Int) + 1 := IntWalk.i64_in _ (by omega)
      obtain ⟨b1, o1, B1, d1, rfl, -, hb1, r1, -, -, hR1, -⟩ := HTS.out.row (Nat.le_refl _) hsa
      have hml : (List.map (fun (t : Nat) => (t : Int)) (mem 12 (setAt g a k N))).length = (mem 12 (setAt g a k N)).length := by rw [List.length_map]
      rw [hml] at r1 hR1
      have hm12 := mem_len 12 (setAt g a k N)
      generalize mem 12 (setAt g a k N) = L at *
      generalize nodeAt g k N = nd at *
      generalize matchB g a k = M at *
      have HR1 := Lib.hid hR1
      have HM12 := Lib.hid hm12
      clear hsl hsa hnl hwe hgo hR1 hml HTS HKL hw ha
      go_upto_region 14 with fail
      obtain ⟨NL, hNL⟩ : ∃ NL, NL = L.length := ⟨_, rfl⟩
      rw [← hNL] at HR1 HFA hm12 ⊢
      have HNL := Lib.hid hNL
      clear hNL m0 m1 m2 r1
      go_wp2_with fail
      go_loopw [8, 10] (fun ff ii wr => ∃ i : Nat, i ≤ NL ∧ ii = .int .i64 (i : Int) ∧ ff = .bool (foundM g a nd L i) ∧ Below w8.heap.size w8 wr) (fun _ ii _ => NL - (intOf ii).toNat)
      case atStart => exact ⟨0, Nat.zero_le _, rfl, rfl, Below.refl _ _⟩
      case round =>
        obtain ⟨wo, rfl⟩ : ∃ wo : World, wo = wr := ⟨_, rfl⟩
        obtain ⟨i, hi, rfl, rfl, hbi⟩ := hrel
        have x0 := kcell hbi x0
        have x1 := kcell hbi x1
        have y0 := kcell hbi y0
        have y1 := kcell hbi y1
        have y2 := kcell hbi y2
        have k0 := kcell hbi k0
        have k1 := kcell hbi k1
        have HGV := Lib.hid (HGV.out.keep hbi)
        have HAV := Lib.hid (HAV.out.keep hbi)
        have HKV := Lib.hid (HKV.out.keep hbi)
        have HB := Lib.hid (below_trans HB.out hbi)
        by_cases hlt : i < NL
        · have hltL : i < L.length := by rw [← HNL.out]; exact hlt
          obtain ⟨s, hs⟩ : ∃ s, L[i]? = some s := ⟨_, List.getElem?_eq_getElem hltL⟩
          have hsa := HST.out s (List.mem_of_getElem? hs)
          have HSU := Lib.hid (foundM_succ (g := g) (a := a) (x := nd) hs)
          obtain ⟨b7, o7, rfl, -, hb7, d7⟩ := SlI.intI (SlE.keep HR1.out hbi) (show (L.map fun (t : Nat) => (t : Int))[i]? = some (s : Int) by rw [List.getElem?_map, hs]; rfl)
          have hii : (i : Int) < (NL : Int) := by omega
          have HSA := Lib.hid hsa
          clear hs hltL hsa
          cases hfo : foundM g a nd L i with
          | true =>
            have HS1 := Lib.hid (show foundM g a nd L (i + 1) = true by rw [HSU.out, hfo]; rfl)
            go_wp2_with fail
            refine F_start 13 (fun w' => w'.cell? ⟨w1.heap.size, 0, none⟩ = some (.slice A1 n1 c1) ∧ w'.cell? ⟨w1.heap.size, 1, none⟩ = some (.slice A2 n2 c2)) (by kernel_rfl) (by exact ⟨x0, x1⟩) (fun hS inv => ?_)
            refine F_take (i := 0) (v := ?_) rfl (by kernel_rfl) (by kernel_rfl) (by kernel_rfl) (fun _ _ _ h => h) inv (Or.inl ⟨by rfl, ?_⟩) (by assumption) (fun invn => ?_)
            rotate_left
            · (intro w hSw; (try dsimp only at hSw); go_simp; try with_reducible rfl)
            try simp only [List.getElem_toArray, List.getElem_cons_zero, List.getElem_cons_succ, Act.put, List.setIfInBounds_toArray, List.set_cons_zero, List.set_cons_succ]
            clear inv
            have inv := invn
            clear invn
            refine F_take (i := 1) (v := ?_) rfl (by kernel_rfl) (by kernel_rfl) (by kernel_rfl) (fun _ _ _ h => h) inv (Or.inl ⟨by rfl, ?_⟩) (by assumption) (fun invn => ?_)
            rotate_left
            · (intro w hSw; (try dsimp only at hSw); go_simp; try with_reducible rfl)
            try simp only [List.getElem_toArray, List.getElem_cons_zero, List.getElem_cons_succ, Act.put, List.setIfInBounds_toArray, List.set_cons_zero, List.set_cons_succ]
            clear inv
            have inv := invn
            clear invn
            refine F_take (i := 2) (v := undef) rfl (by kernel_rfl) (by kernel_rfl) (by kernel_rfl) (fun _ _ _ h => h) inv (Or.inr ⟨by rfl, rfl⟩) (by assumption) (fun invn => ?_)
            try simp only [List.getElem_toArray, List.getElem_cons_zero, List.getElem_cons_succ, Act.put, List.setIfInBounds_toArray, List.set_cons_zero, List.set_cons_succ]
            clear inv
            have inv := invn
            clear invn
            refine F_take (i := 3) (v := undef) rfl (by kernel_rfl) (by kernel_rfl) (by kernel_rfl) (fun _ _ _ h => h) inv (Or.inr ⟨by rfl, rfl⟩) (by assumption) (fun invn => ?_)
            try simp only [List.getElem_toArray, List.getElem_cons_zero, List.getElem_cons_succ, Act.put, List.setIfInBounds_toArray, List.set_cons_zero, List.set_cons_succ]
            clear inv
            have inv := invn
            clear invn
            refine F_take (i := 4) (v := undef) rfl (by kernel_rfl) (by kernel_rfl) (by kernel_rfl) (fun _ _ _ h => h) inv (Or.inr ⟨by rfl, rfl⟩) (by assumption) (fun invn => ?_)
            try simp only [List.getElem_toArray, List.getElem_cons_zero, List.getElem_cons_succ, Act.put, List.setIfInBounds_toArray, List.set_cons_zero, List.set_cons_succ]
            clear inv
            have inv := invn
            clear invn
            refine F_take (i := 5) (v := undef) rfl (by kernel_rfl) (by kernel_rfl) (by kernel_rfl) (fun _ _ _ h => h) inv (Or.inr ⟨by rfl, rfl⟩) (by assumption) (fun invn => ?_)
            try simp only [List.getElem_toArray, List.getElem_cons_zero, List.getElem_cons_succ, Act.put, List.setIfInBounds_toArray, List.set_cons_zero, List.set_cons_succ]
            clear inv
            have inv := invn
            clear invn
            refine F_take (i := 7) (v := undef) rfl (by kernel_rfl) (by kernel_rfl) (by kernel_rfl) (fun _ _ _ h => h) inv (Or.inr ⟨by rfl, rfl⟩) (by assumption) (fun invn => ?_)
            try simp only [List.getElem_toArray, List.getElem_cons_zero, List.getElem_cons_succ, Act.put, List.setIfInBounds_toArray, List.set_cons_zero, List.set_cons_succ]
            clear inv
            have inv := invn
            clear invn
            refine F_take (i := 8) (v := undef) rfl (by kernel_rfl) (by kernel_rfl) (by kernel_rfl) (fun _ _ _ h => h) inv (Or.inr ⟨by rfl, rfl⟩) (by assumption) (fun invn => ?_)
            try simp only [List.getElem_toArray, List.getElem_cons_zero, List.getElem_cons_succ, Act.put, List.setIfInBounds_toArray, List.set_cons_zero, List.set_cons_succ]
            clear inv
            have inv := invn
            clear invn
            refine F_take (i := 9) (v := undef) rfl (by kernel_rfl) (by kernel_rfl) (by kernel_rfl) (fun _ _ _ h => h) inv (Or.inr ⟨by rfl, rfl⟩) (by assumption) (fun invn => ?_)
            try simp only [List.getElem_toArray, List.getElem_cons_zero, List.getElem_cons_succ, Act.put, List.setIfInBounds_toArray, List.set_cons_zero, List.set_cons_succ]
            clear inv
            have inv := invn
            clear invn
            refine F_take (i := 10) (v := undef) rfl (by kernel_rfl) (by kernel_rfl) (by kernel_rfl) (fun _ _ _ h => h) inv (Or.inr ⟨by rfl, rfl⟩) (by assumption) (fun invn => ?_)
            try simp only [List.getElem_toArray, List.getElem_cons_zero, List.getElem_cons_succ, Act.put, List.setIfInBounds_toArray, List.set_cons_zero, List.set_cons_succ]
            clear inv
            have inv := invn
            clear invn
            refine F_oneN (i := 6) (by kernel_rfl) rfl (by rfl) (by omega) inv (by assumption) (fun invn => ?_)
            try simp only [List.getElem_toArray, List.getElem_cons_zero, List.getElem_cons_succ, Act.put, List.setIfInBounds_toArray, List.set_cons_zero, List.set_cons_succ]
            clear inv
            have inv := invn
            clear invn
            refine F_oneN (i := 11) (by kernel_rfl) rfl (by rfl) (by omega) inv (by assumption) (fun invn => ?_)
            try simp only [List.getElem_toArray, List.getElem_cons_zero, List.getElem_cons_succ, Act.put, List.setIfInBounds_toArray, List.set_cons_zero, List.set_cons_succ]
            clear inv
            have inv := invn
            clear invn
            refine F_take (i := 12) (v := ?_) rfl (by kernel_rfl) (by kernel_rfl) (by kernel_rfl) (fun _ _ _ h => h) inv (Or.inl ⟨by rfl, ?_⟩) (by assumption) (fun invn => ?_)
            rotate_left
            · (intro w hSw; (try dsimp only at hSw); go_simp; try with_reducible rfl)
            try simp only [List.getElem_toArray, List.getElem_cons_zero, List.getElem_cons_succ, Act.put, List.setIfInBounds_toArray, List.set_cons_zero, List.set_cons_succ]
            clear inv
            have inv := invn
            clear invn
            refine F_last (i := 13) (by kernel_rfl) rfl rfl (by omega) (by kernel_rfl) (fun K hK => ?_)
            go_simp
            refine hK _ _ ?_
            clear hK K
            go_wp2_with fail
            go_roundw
            case rel => exact ⟨i + 1, by omega, by go_num, by rw [HS1.out], hbi.drew⟩
            case measure => simp [intOf]; omega
          | false =>
            have HS1 := Lib.hid (show foundM g a nd L (i + 1) = accC a (valAt g nd) s by rw [HSU.out, hfo]; rfl)
            go_wp2_with fail
            refine F_start 13 (fun w' => w'.cell? ⟨w1.heap.size, 0, none⟩ = some (.slice A1 n1 c1) ∧ w'.cell? ⟨w1.heap.size, 1, none⟩ = some (.slice A2 n2 c2) ∧ w'.cell? ⟨w1.heap.size + 1, 0, none⟩ = some (.int .i64 a.start) ∧ w'.cell? ⟨w1.heap.size + 1, 1, none⟩ = some (.slice A3 n3 c3) ∧ w'.cell? ⟨w1.heap.size + 1, 2, none⟩ = some (.slice A4 n4 c4) ∧ w'.cell? ⟨w1.heap.size + 1 + 1, 0, none⟩ = some (.int .i64 k.1) ∧ w'.cell? ⟨w1.heap.size + 1 + 1, 1, none⟩ = some (.slice A5 N c5) ∧ w'.cell? ⟨b7, o7 + i, none⟩ = some (.int .i64 (s : Int))) (by kernel_rfl) (by exact ⟨x0, x1, y0, y1, y2, k0, k1, d7⟩) (fun hS inv => ?_)
            refine F_take (i := 0) (v := ?_) rfl (by kernel_rfl) (by kernel_rfl) (by kernel_rfl) (fun _ _ _ h => h) inv (Or.inl ⟨by rfl, ?_⟩) (by assumption) (fun invn => ?_)
            rotate_left
            · (intro w hSw; (try dsimp only at hSw); go_simp; try with_reducible rfl)
            try simp only [List.getElem_toArray, List.getElem_cons_zero, List.getElem_cons_succ, Act.put, List.setIfInBounds_toArray, List.set_cons_zero, List.set_cons_succ]
            clear inv
            have inv := invn
            clear invn
            refine F_take (i := 1) (v := ?_) rfl (by kernel_rfl) (by kernel_rfl) (by kernel_rfl) (fun _ _ _ h => h) inv (Or.inl ⟨by rfl, ?_⟩) (by assumption) (fun invn => ?_)
            rotate_left
            · (intro w hSw; (try dsimp only at hSw); go_simp; try with_reducible rfl)
            try simp only [List.getElem_toArray, List.getElem_cons_zero, List.getElem_cons_succ, Act.put, List.setIfInBounds_toArray, List.set_cons_zero, List.set_cons_succ]
            clear inv
            have inv := invn
            clear invn
            refine F_take (i := 2) (v := ?_) rfl (by kernel_rfl) (by kernel_rfl) (by kernel_rfl) (fun _ _ _ h => h) inv (Or.inl ⟨by rfl, ?_⟩) (by assumption) (fun invn => ?_)
            rotate_left
            · (intro w hSw; (try dsimp only at hSw); go_simp; try with_reducible rfl)
            try simp only [List.getElem_toArray, List.getElem_cons_zero, List.getElem_cons_succ, Act.put, List.setIfInBounds_toArray, List.set_cons_zero, List.set_cons_succ]
            clear inv
            have inv := invn
            clear invn
            refine F_take (i := 3) (v := ?_) rfl (by kernel_rfl) (by kernel_rfl) (by kernel_rfl) (fun _ _ _ h => h) inv (Or.inl ⟨by rfl, ?_⟩) (by assumption) (fun invn => ?_)
            rotate_left
            · (intro w hSw; (try dsimp only at hSw); go_simp; try with_reducible rfl)
            try simp only [List.getElem_toArray, List.getElem_cons_zero, List.getElem_cons_succ, Act.put, List.setIfInBounds_toArray, List.set_cons_zero, List.set_cons_succ]
            clear inv
            have inv := invn
            clear invn
            refine F_take (i := 4) (v := ?_) rfl (by kernel_rfl) (by kernel_rfl) (by kernel_rfl) (fun _ _ _ h => h) inv (Or.inl ⟨by rfl, ?_⟩) (by assumption) (fun invn => ?_)
            rotate_left
            · (intro w hSw; (try dsimp only at hSw); go_simp; try with_reducible rfl)
            try simp only [List.getElem_toArray, List.getElem_cons_zero, List.getElem_cons_succ, Act.put, List.setIfInBounds_toArray, List.set_cons_zero, List.set_cons_succ]
            clear inv
            have inv := invn
            clear invn
            refine F_take (i := 5) (v := ?_) rfl (by kernel_rfl) (by kernel_rfl) (by kernel_rfl) (fun _ _ _ h => h) inv (Or.inl ⟨by rfl, ?_⟩) (by assumption) (fun invn => ?_)
            rotate_left
            · (intro w hSw; (try dsimp only at hSw); go_simp; try with_reducible rfl)
            try simp only [List.getElem_toArray, List.getElem_cons_zero, List.getElem_cons_succ, Act.put, List.setIfInBounds_toArray, List.set_cons_zero, List.set_cons_succ]
            clear inv
            have inv := invn
            clear invn
            refine F_take (i := 7) (v := ?_) rfl (by kernel_rfl) (by kernel_rfl) (by kernel_rfl) (fun _ _ _ h => h) inv (Or.inl ⟨by rfl, ?_⟩) (by assumption) (fun invn => ?_)
            rotate_left
            · (intro w hSw; (try dsimp only at hSw); go_simp; try with_reducible rfl)
            try simp only [List.getElem_toArray, List.getElem_cons_zero, List.getElem_cons_succ, Act.put, List.setIfInBounds_toArray, List.set_cons_zero, List.set_cons_succ]
            clear inv
            have inv := invn
            clear invn
            refine F_take (i := 8) (v := ?_) rfl (by kernel_rfl) (by kernel_rfl) (by kernel_rfl) (fun _ _ _ h => h) inv (Or.inl ⟨by rfl, ?_⟩) (by assumption) (fun invn => ?_)
            rotate_left
            · (intro w hSw; (try dsimp only at hSw); go_simp; try with_reducible rfl)
            try simp only [List.getElem_toArray, List.getElem_cons_zero, List.getElem_cons_succ, Act.put, List.setIfInBounds_toArray, List.set_cons_zero, List.set_cons_succ]
            clear inv
            have inv := invn
            clear invn
            refine F_take (i := 9) (v := ?_) rfl (by kernel_rfl) (by kernel_rfl) (by kernel_rfl) (fun _ _ _ h => h) inv (Or.inl ⟨by rfl, ?_⟩) (by assumption) (fun invn => ?_)
            rotate_left
            · (intro w hSw; (try dsimp only at hSw); go_simp; try with_reducible rfl)
            try simp only [List.getElem_toArray, List.getElem_cons_zero, List.getElem_cons_succ, Act.put, List.setIfInBounds_toArray, List.set_cons_zero, List.set_cons_succ]
            clear inv
            have inv := invn
            clear invn
            refine F_take (i := 10) (v := ?_) rfl (by kernel_rfl) (by kernel_rfl) (by kernel_rfl) (fun _ _ _ h => h) inv (Or.inl ⟨by rfl, ?_⟩) (by assumption) (fun invn => ?_)
            rotate_left
            · (intro w hSw; (try dsimp only at hSw); go_simp; try with_reducible rfl)
            try simp only [List.getElem_toArray, List.getElem_cons_zero, List.getElem_cons_succ, Act.put, List.setIfInBounds_toArray, List.set_cons_zero, List.set_cons_succ]
            clear inv
            have inv := invn
            clear invn
            have hd := (Below.refl wo.heap.size wo).drew
            have HGV := Lib.hid (HGV.out.keep hd)
            have HAV := Lib.hid (HAV.out.keep hd)
            have HKV := Lib.hid (HKV.out.keep hd)
            have HBI := Lib.hid (below_trans hbi hd)
            clear x0 x1 y0 y1 y2 k0 k1 d7 hd
            refine F_oneH (i := 6) (by kernel_rfl) rfl (by rfl) (by omega) inv (fun K hK => ?_)
            try simp only [List.getElem_toArray, List.getElem_cons_zero, List.getElem_cons_succ]
            go_simp
            refine (HWE.out wo.drew HGV.out HKV.out).mono ?_
            rintro e w9 ⟨rfl, hb9⟩
            refine hK.out _ _ (kB8 hb9 hS) (fun hSn invn => ?_)
            try simp only [List.getElem_toArray, List.getElem_cons_zero, List.getElem_cons_succ, Act.put, List.setIfInBounds_toArray, List.set_cons_zero, List.set_cons_succ]
            clear hK K inv hS
            have inv := invn
            have hS := hSn
            clear invn hSn
            have HGV := Lib.hid (HGV.out.keep hb9)
            have HAV := Lib.hid (HAV.out.keep hb9)
            have HBI := Lib.hid (below_trans HBI.out hb9)
            clear hb9
            refine F_oneH (i := 11) (by kernel_rfl) rfl (by rfl) (by omega) inv (fun K hK => ?_)
            try simp only [List.getElem_toArray, List.getElem_cons_zero, List.getElem_cons_succ]
            go_simp
            refine (HAC.out s HSA.out w9 HGV.out HAV.out).mono ?_
            rintro e w10 ⟨rfl, hb10⟩
            refine hK.out _ _ (kB8 hb10 hS) (fun hSn invn => ?_)
            try simp only [List.getElem_toArray, List.getElem_cons_zero, List.getElem_cons_succ, Act.put, List.setIfInBounds_toArray, List.set_cons_zero, List.set_cons_succ]
            clear hK K inv hS
            have inv := invn
            have hS := hSn
            clear invn hSn
            have HBI := Lib.hid (below_trans HBI.out hb10)
            clear hb10
            refine F_take (i := 12) (v := ?_) rfl (by kernel_rfl) (by kernel_rfl) (by kernel_rfl) (fun _ _ _ h => h) inv (Or.inl ⟨by rfl, ?_⟩) (by assumption) (fun invn => ?_)
            rotate_left
            · (intro w hSw; (try dsimp only at hSw); go_simp; try with_reducible rfl)
            try simp only [List.getElem_toArray, List.getElem_cons_zero, List.getElem_cons_succ, Act.put, List.setIfInBounds_toArray, List.set_cons_zero, List.set_cons_succ]
            clear inv
            have inv := invn
            clear invn
            refine F_last (i := 13) (by kernel_rfl) rfl rfl (by omega) (by kernel_rfl) (fun K hK => ?_)
            go_simp
            refine hK _ _ ?_
            clear hK K
            go_wp2_with fail
            go_roundw
            case rel => exact ⟨i + 1, by omega, by go_num, by rw [HS1.out], HBI.out⟩
            case measure => simp [intOf]; omega
        · obtain rfl : i = NL := by omega
          rw [HFA.out]
          clear HFA HNL HR1
          cases hacc : accW a (wordL g k) with
          | true =>
            obtain rfl : M = true := HWD.out hacc
            have HACC := Lib.hid hacc
            clear hacc HWD
            go_wp2_with fail
            refine F_start 14 (fun w' => w'.cell? ⟨w1.heap.size, 0, none⟩ = some (.slice A1 n1 c1) ∧ w'.cell? ⟨w1.heap.size, 1, none⟩ = some (.slice A2 n2 c2) ∧ w'.cell? ⟨w1.heap.size + 1, 0, none⟩ = some (.int .i64 a.start) ∧ w'.cell? ⟨w1.heap.size + 1, 1, none⟩ = some (.slice A3 n3 c3) ∧ w'.cell? ⟨w1.heap.size + 1, 2, none⟩ = some (.slice A4 n4 c4) ∧ w'.cell? ⟨w1.heap.size + 1 + 1, 0, none⟩ = some (.int .i64 k.1) ∧ w'.cell? ⟨w1.heap.size + 1 + 1, 1, none⟩ = some (.slice A5 N c5)) (by kernel_rfl) (by exact ⟨x0, x1, y0, y1, y2, k0, k1⟩) (fun hS inv => ?_)
            refine F_take (i := 0) (v := ?_) rfl (by kernel_rfl) (by kernel_rfl) (by kernel_rfl) (fun _ _ _ h => h) inv (Or.inl ⟨by rfl, ?_⟩) (by assumption) (fun invn => ?_)
            rotate_left
            · (intro w hSw; (try dsimp only at hSw); go_simp; try with_reducible rfl)
            try simp only [List.getElem_toArray, List.getElem_cons_zero, List.getElem_cons_succ, Act.put, List.setIfInBounds_toArray, List.set_cons_zero, List.set_cons_succ]
            clear inv
            have inv := invn
            clear invn
            refine F_take (i := 1) (v := ?_) rfl (by kernel_rfl) (by kernel_rfl) (by kernel_rfl) (fun _ _ _ h => h) inv (Or.inl ⟨by rfl, ?_⟩) (by assumption) (fun invn => ?_)
            rotate_left
            · (intro w hSw; (try dsimp only at hSw); go_simp; try with_reducible rfl)
            try simp only [List.getElem_toArray, List.getElem_cons_zero, List.getElem_cons_succ, Act.put, List.setIfInBounds_toArray, List.set_cons_zero, List.set_cons_succ]
            clear inv
            have inv := invn
            clear invn
            refine F_take (i := 2) (v := ?_) rfl (by kernel_rfl) (by kernel_rfl) (by kernel_rfl) (fun _ _ _ h => h) inv (Or.inl ⟨by rfl, ?_⟩) (by assumption) (fun invn => ?_)
            rotate_left
            · (intro w hSw; (try dsimp only at hSw); go_simp; try with_reducible rfl)
            try simp only [List.getElem_toArray, List.getElem_cons_zero, List.getElem_cons_succ, Act.put, List.setIfInBounds_toArray, List.set_cons_zero, List.set_cons_succ]
            clear inv
            have inv := invn
            clear invn
            refine F_take (i := 3) (v := ?_) rfl (by kernel_rfl) (by kernel_rfl) (by kernel_rfl) (fun _ _ _ h => h) inv (Or.inl ⟨by rfl, ?_⟩) (by assumption) (fun invn => ?_)
            rotate_left
            · (intro w hSw; (try dsimp only at hSw); go_simp; try with_reducible rfl)
            try simp only [List.getElem_toArray, List.getElem_cons_zero, List.getElem_cons_succ, Act.put, List.setIfInBounds_toArray, List.set_cons_zero, List.set_cons_succ]
            clear inv
            have inv := invn
            clear invn
            refine F_take (i := 4) (v := ?_) rfl (by kernel_rfl) (by kernel_rfl) (by kernel_rfl) (fun _ _ _ h => h) inv (Or.inl ⟨by rfl, ?_⟩) (by assumption) (fun invn => ?_)
            rotate_left
            · (intro w hSw; (try dsimp only at hSw); go_simp; try with_reducible rfl)
            try simp only [List.getElem_toArray, List.getElem_cons_zero, List.getElem_cons_succ, Act.put, List.setIfInBounds_toArray, List.set_cons_zero, List.set_cons_succ]
            clear inv
            have inv := invn
            clear invn
            refine F_take (i := 5) (v := ?_) rfl (by kernel_rfl) (by kernel_rfl) (by kernel_rfl) (fun _ _ _ h => h) inv (Or.inl ⟨by rfl, ?_⟩) (by assumption) (fun invn => ?_)
            rotate_left
            · (intro w hSw; (try dsimp only at hSw); go_simp; try with_reducible rfl)
            try simp only [List.getElem_toArray, List.getElem_cons_zero, List.getElem_cons_succ, Act.put, List.setIfInBounds_toArray, List.set_cons_zero, List.set_cons_succ]
            clear inv
            have inv := invn
            clear invn
            refine F_take (i := 6) (v := ?_) rfl (by kernel_rfl) (by kernel_rfl) (by kernel_rfl) (fun _ _ _ h => h) inv (Or.inl ⟨by rfl, ?_⟩) (by assumption) (fun invn => ?_)
            rotate_left
            · (intro w hSw; (try dsimp only at hSw); go_simp; try with_reducible rfl)
            try simp only [List.getElem_toArray, List.getElem_cons_zero, List.getElem_cons_succ, Act.put, List.setIfInBounds_toArray, List.set_cons_zero, List.set_cons_succ]
            clear inv
            have inv := invn
            clear invn
            have hd := (Below.refl wo.heap.size wo).drew
            have HGV := Lib.hid (HGV.out.keep hd)
            have HAV := Lib.hid (HAV.out.keep hd)
            have HKV := Lib.hid (HKV.out.keep hd)
            have HB := Lib.hid (below_trans HB.out hd)
            clear x0 x1 y0 y1 y2 k0 k1 hd
            refine F_oneH (i := 7) (by kernel_rfl) rfl (by rfl) (by omega) inv (fun K hK => ?_)
            try simp only [List.getElem_toArray, List.getElem_cons_zero, List.getElem_cons_succ]
            go_simp
            refine (specWalkWord _ _ g k wo.drew HGV.out HKV.out).mono ?_
            rintro e w9 ⟨vw, rfl, how, hb9⟩
            obtain ⟨A8, n8, c8, rfl⟩ := how.shape
            have HWW := Lib.hid ((how.sl cI_len).all (Nat.le_refl _))
            refine hK.out _ _ (kB7 hb9 hS) (fun hSn invn => ?_)
            try simp only [List.getElem_toArray, List.getElem_cons_zero, List.getElem_cons_succ, Act.put, List.setIfInBounds_toArray, List.set_cons_zero, List.set_cons_succ]
            clear hK K inv hS
            have inv := invn
            have hS := hSn
            clear invn hSn
            have HAV := Lib.hid (HAV.out.keep hb9)
            have HB := Lib.hid (below_trans HB.out hb9)
            clear hb9 how
            refine F_oneH (i := 8) (by kernel_rfl) rfl (by rfl) (by omega) inv (fun K hK => ?_)
            try simp only [List.getElem_toArray, List.getElem_cons_zero, List.getElem_cons_succ]
            go_simp
            refine (specAcceptsWord _ _ a (wordL g k) w9 HAV.out HWW.out).mono ?_
            rintro e w10 ⟨rfl, hb10⟩
            rw [HACC.out]
            refine hK.out _ _ (kB7 hb10 hS) (fun hSn invn => ?_)
            try simp only [List.getElem_toArray, List.getElem_cons_zero, List.getElem_cons_succ, Act.put, List.setIfInBounds_toArray, List.set_cons_zero, List.set_cons_succ]
            clear hK K inv hS
            have inv := invn
            have hS := hSn
            clear invn hSn
            have HB := Lib.hid (below_trans HB.out hb10)
            clear hb10
            refine F_take (i := 9) (v := ?_) rfl (by kernel_rfl) (by kernel_rfl) (by kernel_rfl) (fun _ _ _ h => h) inv (Or.inl ⟨by rfl, ?_⟩) (by assumption) (fun invn => ?_)
            rotate_left
            · (intro w hSw; (try dsimp only at hSw); go_simp; try with_reducible rfl)
            try simp only [List.getElem_toArray, List.getElem_cons_zero, List.getElem_cons_succ, Act.put, List.setIfInBounds_toArray, List.set_cons_zero, List.set_cons_succ]
            clear inv
            have inv := invn
            clear invn
            refine F_take (i := 10) (v := ?_) rfl (by kernel_rfl) (by kernel_rfl) (by kernel_rfl) (fun _ _ _ h => h) inv (Or.inl ⟨by rfl, ?_⟩) (by assumption) (fun invn => ?_)
            rotate_left
            · (intro w hSw; (try dsimp only at hSw); go_simp; try with_reducible rfl)
            try simp only [List.getElem_toArray, List.getElem_cons_zero, List.getElem_cons_succ, Act.put, List.setIfInBounds_toArray, List.set_cons_zero, List.set_cons_succ]
            clear inv
            have inv := invn
            clear invn
            refine F_take (i := 11) (v := ?_) rfl (by kernel_rfl) (by kernel_rfl) (by kernel_rfl) (fun _ _ _ h => h) inv (Or.inl ⟨by rfl, ?_⟩) (by assumption) (fun invn => ?_)
            rotate_left
            · (intro w hSw; (try dsimp only at hSw); go_simp; try with_reducible rfl)
            try simp only [List.getElem_toArray, List.getElem_cons_zero, List.getElem_cons_succ, Act.put, List.setIfInBounds_toArray, List.set_cons_zero, List.set_cons_succ]
            clear inv
            have inv := invn
            clear invn
            refine F_take (i := 12) (v := ?_) rfl (by kernel_rfl) (by kernel_rfl) (by kernel_rfl) (fun _ _ _ h => h) inv (Or.inl ⟨by rfl, ?_⟩) (by assumption) (fun invn => ?_)
            rotate_left
            · (intro w hSw; (try dsimp only at hSw); go_simp; try with_reducible rfl)
            try simp only [List.getElem_toArray, List.getElem_cons_zero, List.getElem_cons_succ, Act.put, List.setIfInBounds_toArray, List.set_cons_zero, List.set_cons_succ]
            clear inv
            have inv := invn
            clear invn
            refine F_take (i := 13) (v := ?_) rfl (by kernel_rfl) (by kernel_rfl) (by kernel_rfl) (fun _ _ _ h => h) inv (Or.inl ⟨by rfl, ?_⟩) (by assumption) (fun invn => ?_)
            rotate_left
            · (intro w hSw; (try dsimp only at hSw); go_simp; try with_reducible rfl)
            try simp only [List.getElem_toArray, List.getElem_cons_zero, List.getElem_cons_succ, Act.put, List.setIfInBounds_toArray, List.set_cons_zero, List.set_cons_succ]
            clear inv
            have inv := invn
            clear invn
            refine F_last (i := 14) (by kernel_rfl) rfl rfl (by omega) (by kernel_rfl) (fun K hK => ?_)
            go_simp
            refine hK _ _ ?_
            clear hK K
            go_wp2_with fail
            go_ret
            exact ⟨rfl, HB.out⟩
          | false =>
            have HACC := Lib.hid hacc
            clear hacc HWD
            cases M
            · skip
              go_wp2_with fail
              refine F_start 14 (fun w' => w'.cell? ⟨w1.heap.size, 0, none⟩ = some (.slice A1 n1 c1) ∧ w'.cell? ⟨w1.heap.size, 1, none⟩ = some (.slice A2 n2 c2) ∧ w'.cell? ⟨w1.heap.size + 1, 0, none⟩ = some (.int .i64 a.start) ∧ w'.cell? ⟨w1.heap.size + 1, 1, none⟩ = some (.slice A3 n3 c3) ∧ w'.cell? ⟨w1.heap.size + 1, 2, none⟩ = some (.slice A4 n4 c4) ∧ w'.cell? ⟨w1.heap.size + 1 + 1, 0, none⟩ = some (.int .i64 k.1) ∧ w'.cell? ⟨w1.heap.size + 1 + 1, 1, none⟩ = some (.slice A5 N c5)) (by kernel_rfl) (by exact ⟨x0, x1, y0, y1, y2, k0, k1⟩) (fun hS inv => ?_)
              refine F_take (i := 0) (v := ?_) rfl (by kernel_rfl) (by kernel_rfl) (by kernel_rfl) (fun _ _ _ h => h) inv (Or.inl ⟨by rfl, ?_⟩) (by assumption) (fun invn => ?_)
              rotate_left
              · (intro w hSw; (try dsimp only at hSw); go_simp; try with_reducible rfl)
              try simp only [List.getElem_toArray, List.getElem_cons_zero, List.getElem_cons_succ, Act.put, List.setIfInBounds_toArray, List.set_cons_zero, List.set_cons_succ]
              clear inv
              have inv := invn
              clear invn
              refine F_take (i := 1) (v := ?_) rfl (by kernel_rfl) (by kernel_rfl) (by kernel_rfl) (fun _ _ _ h => h) inv (Or.inl ⟨by rfl, ?_⟩) (by assumption) (fun invn => ?_)
              rotate_left
              · (intro w hSw; (try dsimp only at hSw); go_simp; try with_reducible rfl)
              try simp only [List.getElem_toArray, List.getElem_cons_zero, List.getElem_cons_succ, Act.put, List.setIfInBounds_toArray, List.set_cons_zero, List.set_cons_succ]
              clear inv
              have inv := invn
              clear invn
              refine F_take (i := 2) (v := ?_) rfl (by kernel_rfl) (by kernel_rfl) (by kernel_rfl) (fun _ _ _ h => h) inv (Or.inl ⟨by rfl, ?_⟩) (by assumption) (fun invn => ?_)
              rotate_left
              · (intro w hSw; (try dsimp only at hSw); go_simp; try with_reducible rfl)
              try simp only [List.getElem_toArray, List.getElem_cons_zero, List.getElem_cons_succ, Act.put, List.setIfInBounds_toArray, List.set_cons_zero, List.set_cons_succ]
              clear inv
              have inv := invn
              clear invn
              refine F_take (i := 3) (v := ?_) rfl (by kernel_rfl) (by kernel_rfl) (by kernel_rfl) (fun _ _ _ h => h) inv (Or.inl ⟨by rfl, ?_⟩) (by assumption) (fun invn => ?_)
              rotate_left
              · (intro w hSw; (try dsimp only at hSw); go_simp; try with_reducible rfl)
              try simp only [List.getElem_toArray, List.getElem_cons_zero, List.getElem_cons_succ, Act.put, List.setIfInBounds_toArray, List.set_cons_zero, List.set_cons_succ]
              clear inv
              have inv := invn
              clear invn
              refine F_take (i := 4) (v := ?_) rfl (by kernel_rfl) (by kernel_rfl) (by kernel_rfl) (fun _ _ _ h => h) inv (Or.inl ⟨by rfl, ?_⟩) (by assumption) (fun invn => ?_)
              rotate_left
              · (intro w hSw; (try dsimp only at hSw); go_simp; try with_reducible rfl)
              try simp only [List.getElem_toArray, List.getElem_cons_zero, List.getElem_cons_succ, Act.put, List.setIfInBounds_toArray, List.set_cons_zero, List.set_cons_succ]
              clear inv
              have inv := invn
              clear invn
              refine F_take (i := 5) (v := ?_) rfl (by kernel_rfl) (by kernel_rfl) (by kernel_rfl) (fun _ _ _ h => h) inv (Or.inl ⟨by rfl, ?_⟩) (by assumption) (fun invn => ?_)
              rotate_left
              · (intro w hSw; (try dsimp only at hSw); go_simp; try with_reducible rfl)
              try simp only [List.getElem_toArray, List.getElem_cons_zero, List.getElem_cons_succ, Act.put, List.setIfInBounds_toArray, List.set_cons_zero, List.set_cons_succ]
              clear inv
              have inv := invn
              clear invn
              refine F_take (i := 6) (v := ?_) rfl (by kernel_rfl) (by kernel_rfl) (by kernel_rfl) (fun _ _ _ h => h) inv (Or.inl ⟨by rfl, ?_⟩) (by assumption) (fun invn => ?_)
              rotate_left
              · (intro w hSw; (try dsimp only at hSw); go_simp; try with_reducible rfl)
              try simp only [List.getElem_toArray, List.getElem_cons_zero, List.getElem_cons_succ, Act.put, List.setIfInBounds_toArray, List.set_cons_zero, List.set_cons_succ]
              clear inv
              have inv := invn
              clear invn
              have hd := (Below.refl wo.heap.size wo).drew
              have HGV := Lib.hid (HGV.out.keep hd)
              have HAV := Lib.hid (HAV.out.keep hd)
              have HKV := Lib.hid (HKV.out.keep hd)
              have HB := Lib.hid (below_trans HB.out hd)
              clear x0 x1 y0 y1 y2 k0 k1 hd
              refine F_oneH (i := 7) (by kernel_rfl) rfl (by rfl) (by omega) inv (fun K hK => ?_)
              try simp only [List.getElem_toArray, List.getElem_cons_zero, List.getElem_cons_succ]
              go_simp
              refine (specWalkWord _ _ g k wo.drew HGV.out HKV.out).mono ?_
              rintro e w9 ⟨vw, rfl, how, hb9⟩
              obtain ⟨A8, n8, c8, rfl⟩ := how.shape
              have HWW := Lib.hid ((how.sl cI_len).all (Nat.le_refl _))
              refine hK.out _ _ (kB7 hb9 hS) (fun hSn invn => ?_)
              try simp only [List.getElem_toArray, List.getElem_cons_zero, List.getElem_cons_succ, Act.put, List.setIfInBounds_toArray, List.set_cons_zero, List.set_cons_succ]
              clear hK K inv hS
              have inv := invn
              have hS := hSn
              clear invn hSn
              have HAV := Lib.hid (HAV.out.keep hb9)
              have HB := Lib.hid (below_trans HB.out hb9)
              clear hb9 how
              refine F_oneH (i := 8) (by kernel_rfl) rfl (by rfl) (by omega) inv (fun K hK => ?_)
              try simp only [List.getElem_toArray, List.getElem_cons_zero, List.getElem_cons_succ]
              go_simp
              refine (specAcceptsWord _ _ a (wordL g k) w9 HAV.out HWW.out).mono ?_
              rintro e w10 ⟨rfl, hb10⟩
              rw [HACC.out]
              refine hK.out _ _ (kB7 hb10 hS) (fun hSn invn => ?_)
              try simp only [List.getElem_toArray, List.getElem_cons_zero, List.getElem_cons_succ, Act.put, List.setIfInBounds_toArray, List.set_cons_zero, List.set_cons_succ]
              clear hK K inv hS
              have inv := invn
              have hS := hSn
              clear invn hSn
              have HB := Lib.hid (below_trans HB.out hb10)
              clear hb10
              refine F_take (i := 9) (v := ?_) rfl (by kernel_rfl) (by kernel_rfl) (by kernel_rfl) (fun _ _ _ h => h) inv (Or.inl ⟨by rfl, ?_⟩) (by assumption) (fun invn => ?_)
              rotate_left
              · (intro w hSw; (try dsimp only at hSw); go_simp; try with_reducible rfl)
              try simp only [List.getElem_toArray, List.getElem_cons_zero, List.getElem_cons_succ, Act.put, List.setIfInBounds_toArray, List.set_cons_zero, List.set_cons_succ]
              clear inv
              have inv := invn
              clear invn
              refine F_take (i := 10) (v := ?_) rfl (by kernel_rfl) (by kernel_rfl) (by kernel_rfl) (fun _ _ _ h => h) inv (Or.inl ⟨by rfl, ?_⟩) (by assumption) (fun invn => ?_)
              rotate_left
              · (intro w hSw; (try dsimp only at hSw); go_simp; try with_reducible rfl)
              try simp only [List.getElem_toArray, List.getElem_cons_zero, List.getElem_cons_succ, Act.put, List.setIfInBounds_toArray, List.set_cons_zero, List.set_cons_succ]
              clear inv
              have inv := invn
              clear invn
              refine F_take (i := 11) (v := undef) rfl (by kernel_rfl) (by kernel_rfl) (by kernel_rfl) (fun _ _ _ h => h) inv (Or.inr ⟨by rfl, rfl⟩) (by assumption) (fun invn => ?_)
              try simp only [List.getElem_toArray, List.getElem_cons_zero, List.getElem_cons_succ, Act.put, List.setIfInBounds_toArray, List.set_cons_zero, List.set_cons_succ]
              clear inv
              have inv := invn
              clear invn
              refine F_take (i := 12) (v := ?_) rfl (by kernel_rfl) (by kernel_rfl) (by kernel_rfl) (fun _ _ _ h => h) inv (Or.inl ⟨by rfl, ?_⟩) (by assumption) (fun invn => ?_)
              rotate_left
              · (intro w hSw; (try dsimp only at hSw); go_simp; try with_reducible rfl)
              try simp only [List.getElem_toArray, List.getElem_cons_zero, List.getElem_cons_succ, Act.put, List.setIfInBounds_toArray, List.set_cons_zero, List.set_cons_succ]
              clear inv
              have inv := invn
              clear invn
              refine F_take (i := 13) (v := ?_) rfl (by kernel_rfl) (by kernel_rfl) (by kernel_rfl) (fun _ _ _ h => h) inv (Or.inl ⟨by rfl, ?_⟩) (by assumption) (fun invn => ?_)
              rotate_left
              · (intro w hSw; (try dsimp only at hSw); go_simp; try with_reducible rfl)
              try simp only [List.getElem_toArray, List.getElem_cons_zero, List.getElem_cons_succ, Act.put, List.setIfInBounds_toArray, List.set_cons_zero, List.set_cons_succ]
              clear inv
              have inv := invn
              clear invn
              refine F_last (i := 14) (by kernel_rfl) rfl rfl (by omega) (by kernel_rfl) (fun K hK => ?_)
              go_simp
              refine hK _ _ ?_
              clear hK K
              go_wp2_with fail
              go_ret
              exact ⟨rfl, HB.out⟩
            · skip
              go_wp2_with fail
              refine F_start 14 (fun w' => w'.cell? ⟨w1.heap.size, 0, none⟩ = some (.slice A1 n1 c1) ∧ w'.cell? ⟨w1.heap.size, 1, none⟩ = some (.slice A2 n2 c2) ∧ w'.cell? ⟨w1.heap.size + 1, 0, none⟩ = some (.int .i64 a.start) ∧ w'.cell? ⟨w1.heap.size + 1, 1, none⟩ = some (.slice A3 n3 c3) ∧ w'.cell? ⟨w1.heap.size + 1, 2, none⟩ = some (.slice A4 n4 c4) ∧ w'.cell? ⟨w1.heap.size + 1 + 1, 0, none⟩ = some (.int .i64 k.1) ∧ w'.cell? ⟨w1.heap.size + 1 + 1, 1, none⟩ = some (.slice A5 N c5)) (by kernel_rfl) (by exact ⟨x0, x1, y0, y1, y2, k0, k1⟩) (fun hS inv => ?_)
              refine F_take (i := 0) (v := ?_) rfl (by kernel_rfl) (by kernel_rfl) (by kernel_rfl) (fun _ _ _ h => h) inv (Or.inl ⟨by rfl, ?_⟩) (by assumption) (fun invn => ?_)
              rotate_left
              · (intro w hSw; (try dsimp only at hSw); go_simp; try with_reducible rfl)
              try simp only [List.getElem_toArray, List.getElem_cons_zero, List.getElem_cons_succ, Act.put, List.setIfInBounds_toArray, List.set_cons_zero, List.set_cons_succ]
              clear inv
              have inv := invn
              clear invn
              refine F_take (i := 1) (v := ?_) rfl (by kernel_rfl) (by kernel_rfl) (by kernel_rfl) (fun _ _ _ h => h) inv (Or.inl ⟨by rfl, ?_⟩) (by assumption) (fun invn => ?_)
              rotate_left
              · (intro w hSw; (try dsimp only at hSw); go_simp; try with_reducible rfl)
              try simp only [List.getElem_toArray, List.getElem_cons_zero, List.getElem_cons_succ, Act.put, List.setIfInBounds_toArray, List.set_cons_zero, List.set_cons_succ]
              clear inv
              have inv := invn
              clear invn
              refine F_take (i := 2) (v := ?_) rfl (by kernel_rfl) (by kernel_rfl) (by kernel_rfl) (fun _ _ _ h => h) inv (Or.inl ⟨by rfl, ?_⟩) (by assumption) (fun invn => ?_)
              rotate_left
              · (intro w hSw; (try dsimp only at hSw); go_simp; try with_reducible rfl)
              try simp only [List.getElem_toArray, List.getElem_cons_zero, List.getElem_cons_succ, Act.put, List.setIfInBounds_toArray, List.set_cons_zero, List.set_cons_succ]
              clear inv
              have inv := invn
              clear invn
              refine F_take (i := 3) (v := ?_) rfl (by kernel_rfl) (by kernel_rfl) (by kernel_rfl) (fun _ _ _ h => h) inv (Or.inl ⟨by rfl, ?_⟩) (by assumption) (fun invn => ?_)
              rotate_left
              · (intro w hSw; (try dsimp only at hSw); go_simp; try with_reducible rfl)
              try simp only [List.getElem_toArray, List.getElem_cons_zero, List.getElem_cons_succ, Act.put, List.setIfInBounds_toArray, List.set_cons_zero, List.set_cons_succ]
              clear inv
              have inv := invn
              clear invn
              refine F_take (i := 4) (v := ?_) rfl (by kernel_rfl) (by kernel_rfl) (by kernel_rfl) (fun _ _ _ h => h) inv (Or.inl ⟨by rfl, ?_⟩) (by assumption) (fun invn => ?_)
              rotate_left
              · (intro w hSw; (try dsimp only at hSw); go_simp; try with_reducible rfl)
              try simp only [List.getElem_toArray, List.getElem_cons_zero, List.getElem_cons_succ, Act.put, List.setIfInBounds_toArray, List.set_cons_zero, List.set_cons_succ]
              clear inv
              have inv := invn
              clear invn
              refine F_take (i := 5) (v := ?_) rfl (by kernel_rfl) (by kernel_rfl) (by kernel_rfl) (fun _ _ _ h => h) inv (Or.inl ⟨by rfl, ?_⟩) (by assumption) (fun invn => ?_)
              rotate_left
              · (intro w hSw; (try dsimp only at hSw); go_simp; try with_reducible rfl)
              try simp only [List.getElem_toArray, List.getElem_cons_zero, List.getElem_cons_succ, Act.put, List.setIfInBounds_toArray, List.set_cons_zero, List.set_cons_succ]
              clear inv
              have inv := invn
              clear invn
              refine F_take (i := 6) (v := ?_) rfl (by kernel_rfl) (by kernel_rfl) (by kernel_rfl) (fun _ _ _ h => h) inv (Or.inl ⟨by rfl, ?_⟩) (by assumption) (fun invn => ?_)
              rotate_left
              · (intro w hSw; (try dsimp only at hSw); go_simp; try with_reducible rfl)
              try simp only [List.getElem_toArray, List.getElem_cons_zero, List.getElem_cons_succ, Act.put, List.setIfInBounds_toArray, List.set_cons_zero, List.set_cons_succ]
              clear inv
              have inv := invn
              clear invn
              have hd := (Below.refl wo.heap.size wo).drew
              have HGV := Lib.hid (HGV.out.keep hd)
              have HAV := Lib.hid (HAV.out.keep hd)
              have HKV := Lib.hid (HKV.out.keep hd)
              have HB := Lib.hid (below_trans HB.out hd)
              clear x0 x1 y0 y1 y2 k0 k1 hd
              refine F_oneH (i := 7) (by kernel_rfl) rfl (by rfl) (by omega) inv (fun K hK => ?_)
              try simp only [List.getElem_toArray, List.getElem_cons_zero, List.getElem_cons_succ]
              go_simp
              refine (specWalkWord _ _ g k wo.drew HGV.out HKV.out).mono ?_
              rintro e w9 ⟨vw, rfl, how, hb9⟩
              obtain ⟨A8, n8, c8, rfl⟩ := how.shape
              have HWW := Lib.hid ((how.sl cI_len).all (Nat.le_refl _))
              refine hK.out _ _ (kB7 hb9 hS) (fun hSn invn => ?_)
              try simp only [List.getElem_toArray, List.getElem_cons_zero, List.getElem_cons_succ, Act.put, List.setIfInBounds_toArray, List.set_cons_zero, List.set_cons_succ]
              clear hK K inv hS
              have inv := invn
              have hS := hSn
              clear invn hSn
              have HAV := Lib.hid (HAV.out.keep hb9)
              have HB := Lib.hid (below_trans HB.out hb9)
              clear hb9 how
              refine F_oneH (i := 8) (by kernel_rfl) rfl (by rfl) (by omega) inv (fun K hK => ?_)
              try simp only [List.getElem_toArray, List.getElem_cons_zero, List.getElem_cons_succ]
              go_simp
              refine (specAcceptsWord _ _ a (wordL g k) w9 HAV.out HWW.out).mono ?_
              rintro e w10 ⟨rfl, hb10⟩
              rw [HACC.out]
              refine hK.out _ _ (kB7 hb10 hS) (fun hSn invn => ?_)
              try simp only [List.getElem_toArray, List.getElem_cons_zero, List.getElem_cons_succ, Act.put, List.setIfInBounds_toArray, List.set_cons_zero, List.set_cons_succ]
              clear hK K inv hS
              have inv := invn
              have hS := hSn
              clear invn hSn
              have HB := Lib.hid (below_trans HB.out hb10)
              clear hb10
              refine F_take (i := 9) (v := ?_) rfl (by kernel_rfl) (by kernel_rfl) (by kernel_rfl) (fun _ _ _ h => h) inv (Or.inl ⟨by rfl, ?_⟩) (by assumption) (fun invn => ?_)
              rotate_left
              · (intro w hSw; (try dsimp only at hSw); go_simp; try with_reducible rfl)
              try simp only [List.getElem_toArray, List.getElem_cons_zero, List.getElem_cons_succ, Act.put, List.setIfInBounds_toArray, List.set_cons_zero, List.set_cons_succ]
              clear inv
              have inv := invn
              clear invn
              refine F_take (i := 10) (v := ?_) rfl (by kernel_rfl) (by kernel_rfl) (by kernel_rfl) (fun _ _ _ h => h) inv (Or.inl ⟨by rfl, ?_⟩) (by assumption) (fun invn => ?_)
              rotate_left
              · (intro w hSw; (try dsimp only at hSw); go_simp; try with_reducible rfl)
              try simp only [List.getElem_toArray, List.getElem_cons_zero, List.getElem_cons_succ, Act.put, List.setIfInBounds_toArray, List.set_cons_zero, List.set_cons_succ]
              clear inv
              have inv := invn
              clear invn
              refine F_take (i := 11) (v := undef) rfl (by kernel_rfl) (by kernel_rfl) (by kernel_rfl) (fun _ _ _ h => h) inv (Or.inr ⟨by rfl, rfl⟩) (by assumption) (fun invn => ?_)
              try simp only [List.getElem_toArray, List.getElem_cons_zero, List.getElem_cons_succ, Act.put, List.setIfInBounds_toArray, List.set_cons_zero, List.set_cons_succ]
              clear inv
              have inv := invn
              clear invn
              refine F_take (i := 12) (v := ?_) rfl (by kernel_rfl) (by kernel_rfl) (by kernel_rfl) (fun _ _ _ h => h) inv (Or.inl ⟨by rfl, ?_⟩) (by assumption) (fun invn => ?_)
              rotate_left
              · (intro w hSw; (try dsimp only at hSw); go_simp; try with_reducible rfl)
              try simp only [List.getElem_toArray, List.getElem_cons_zero, List.getElem_cons_succ, Act.put, List.setIfInBounds_toArray, List.set_cons_zero, List.set_cons_succ]
              clear inv
              have inv := invn
              clear invn
              refine F_take (i := 13) (v := ?_) rfl (by kernel_rfl) (by kernel_rfl) (by kernel_rfl) (fun _ _ _ h => h) inv (Or.inl ⟨by rfl, ?_⟩) (by assumption) (fun invn => ?_)
              rotate_left
              · (intro w hSw; (try dsimp only at hSw); go_simp; try with_reducible rfl)
              try simp only [List.getElem_toArray, List.getElem_cons_zero, List.getElem_cons_succ, Act.put, List.setIfInBounds_toArray, List.set_cons_zero, List.set_cons_succ]
              clear inv
              have inv := invn
              clear invn
              refine F_last (i := 14) (by kernel_rfl) rfl rfl (by omega) (by kernel_rfl) (fun K hK => ?_)
              go_simp
              refine hK _ _ ?_
              clear hK K
              go_wp2_with fail
              go_ret
              exact ⟨rfl, HB.out⟩
end Go.Proofs.YtallglnmeeahiaaGreat.fnMatching
namespace Go.Proofs.YtallglnmeeahiaaGreat.fnMatching
set_option linter.unusedVariables false
set_option linter.unusedSimpArgs false
open Go.ChangeShapes Go.WideShapes Go.ChangeAt Go.RowKit
theorem own : ownKnob Tryz.prog.godebug = none := by kernel_rfl
theorem laidOut : laidOutB Tryz.prog = true := by kernel_rfl
set_option maxRecDepth 100000 in
theorem lifted (os : Os) (started : os.Started) (H : Type) (enc : TypeId × Value → H) :
    ReturnsInHanded {} Tryz.checked os 4 .any (Rows.fnMatchingSpec.pre6 enc Tryz.prog Tryz.f4 Rows.fnMatchingRow.domain false) (Rows.fnMatchingSpec.post enc Tryz.prog Tryz.f4 false true false false) := by
  refine returnsInHanded_of_change (C := Tryz.checked) own started (by kernel_rfl) Tryz.func4
    (ChangeSpec.witness6 (enc := enc) (C := Tryz.checked) false ⟨#[], #[.slice none 0 0], []⟩ 8 (by kernel_rfl) (by kernel_rfl) (by kernel_rfl) (by kernel_rfl)) ?_
  intro W base args ds gs before hval0 hW hcnd _
  have hval : ∀ (j : Nat) t v, Tryz.f4.params[j]? = some t → args[j]? = some v → Value.okWide Tryz.prog W .any base t v := hval0
  have hW' := hW
  obtain ⟨p, q, hA0, hV, rfl, hfz, hnd⟩ := hW
  have hA : DataW.TrodAll enc Tryz.prog W 0 (fun _ => true) true Tryz.f4.params.toList args.toList ds p := hA0
  rw [Tryz.params4] at hA hval
  obtain ⟨v0, vs0, d0, ds0, p0, q0, hargs, rfl, rfl, h0, r0⟩ := trodAll_cons hA
  obtain ⟨rfl, rfl, rfl⟩ := trodAll_nil r0
  obtain rfl : args = #[v0] := by cases args; simp_all
  obtain ⟨rfl, rfl⟩ := trodVars_none hV
  obtain ⟨a0, w0⟩ := openBytes (hval 0 22 v0 rfl rfl) h0
  refine (walk W v0 a0 w0).mono fun e W' ⟨he, hb⟩ => ?_
  subst he
  exact ⟨_, rfl, law_post laidOut (by kernel_rfl) rfl Tryz.underlying4 rfl rfl hW' hb⟩
theorem unf : Tryz.pinned.checked.prog.unfollowed 4 = true := by kernel_rfl
theorem inpl : Tryz.pinned.checked.prog.inPlace 4 = [] := by kernel_rfl
theorem vnam : Tryz.pinned.checked.prog.varsNamed 4 = [] := by kernel_rfl
theorem rec_ : Tryz.pinned.checked.prog.recurses 4 = true := by rw [Program.recurses, unf, Bool.true_or]
theorem over : Rows.fnMatchingRow.holds Tryz.pinned (OpenSpec.ofChange Rows.fnMatchingSpec) :=
  OpenClaim.holds_of_wide 4 Tryz.f4 rfl rfl rfl rfl rfl rfl rfl ⟨rfl, rfl, rfl, rfl, rfl⟩ rfl rfl rfl rfl rfl (by kernel_rfl) Tryz.func4 (by unfold joinedFacts; rw [seat_mayEnter, seat_lifts, seat_laidOut, seat_mapsRowed, unf, rec_, inpl, vnam]; kernel_rfl)
    (of_decide_eq_true (by kernel_rfl)) (by unfold Func.isWrapper; first | (rw [if_pos (by decide +kernel)]; kernel_rfl) | (rw [if_neg (by decide +kernel)]; exact ⟨rfl, rfl⟩))
    (fun os started H enc _ => lifted os started H enc)
theorem proved : Rows.FnMatchingSaid := over
end Go.Proofs.YtallglnmeeahiaaGreat.fnMatching
