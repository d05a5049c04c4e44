/- 'laws.FnWitnesses' returns true for every list of bytes, without any condition: every answer has a witness, the least one is a shortest one, and no shorter walk matches. -/
import Derived.Test.YtcnenpjaoalmeaaGreatOnlyNBNNNJPC
import Derived.Test.YtcnenpjaoalmeaaGreatOnlyDFDFFGEL
import Derived.Test.YtcnenpjaoalmeaaGreatOnlyLHLAOILG
import Derived.Test.YtcnenpjaoalmeaaGreatOnlyMKGPLPBE
import Derived.Test.YtcnenpjaoalmeaaGreatOnlyAODCNMLC
import Derived.Test.YtcnenpjaoalmeaaGreatOnlyABFGDELO
import Derived.Deep.DeepCutAuto
namespace Go.Proofs.YtcnenpjaoalmeaaGreat.fnWitnesses
set_option linter.unusedVariables false
set_option linter.unusedSimpArgs false
open Go.ChangeShapes Go.WideShapes Go.ChangeAt Go.RowKit
attribute [local go_sem] ext_cell ext_frozen ext_lt ext_lt1 ext_lt2 ext_lt3 ltn2 ltn3 ltn13 lts1 lts2 lts3
theorem lst_yes {g : Gr} {a : Au} {x y : Int} (h : 0 <= shortLen g a x y) : ∃ k, lstShort g a x y = (k, true) /\ isWit g a x y k = true /\ (k.2.length : Int) = shortLen g a x y := by
 have hs : nthSh g a x y 0 = true := by rw [nthSh_zero, decide_eq_true h]
 have hw := nthShort_wit hs
 refine ⟨(nthShort g a x y 0).1, ?_, hw⟩
 rw [lst_nth]
 have h2 : (nthShort g a x y 0).2 = true := by rw [nthShort, if_pos hs]
 exact Prod.ext rfl h2
theorem lst_no {g : Gr} {a : Au} {x y : Int} (h : shortLen g a x y < 0) : lstShort g a x y = ((0, []), false) := by rw [lstShort, if_pos h]
set_option maxRecDepth 100000 in
set_option maxHeartbeats 16000000 in
theorem walk (w : World) (v0 : Value) (bs : List Int) (hv0 : SlI 0 w.heap.size w cU 1 v0 bs) :
 Calls Tryz.prog 5 #[v0] w fun e w' => e = .returned (.bool true) /\ Below w.heap.size w w' := by
 have HV := Lib.hid hv0
 obtain ⟨A0, c0, rfl, hl0, hm0, -⟩ := hv0
 by_cases hbig : 1048576 < bs.length
 · go_enter Tryz.func5, Tryz.ntmps5
   go_wp2_with fail
   refine (big_yes _ _ _ _ hbig (by omega)).mono ?_
   rintro e w' ⟨rfl, rfl⟩
   go_wp2_with fail
   go_ret
   exact ⟨rfl, Below.refl _ _⟩
 go_enter Tryz.func5, Tryz.ntmps5
 go_wp2_with fail
 refine (big_no _ _ _ _ hbig).mono ?_
 rintro e w' ⟨rfl, rfl⟩
 clear hbig hl0 hm0
 go_wp2_with fail
 refine (drawLeastWitness_any _ bs _ HV.out).mono ?_
 rintro e w1 ⟨vg, va, g, a, x, y, rfl, hgv, -, hav, hb1⟩
 obtain ⟨A1, n1, c1, A2, n2, c2, rfl⟩ := hgv.shape
 obtain ⟨A3, n3, c3, A4, n4, c4, rfl⟩ := hav.shape
 have hal := ((Below.refl w1.heap.size w1).alloc (Nat.le_refl _) (.cells #[.slice A1 n1 c1, .slice A2 n2 c2] 27)).alloc (by simp) (.cells #[.int .i64 a.start, .slice A3 n3 c3, .slice A4 n4 c4] 31)
 have bg := (Blk.new w1 27 #[.slice A1 n1 c1, .slice A2 n2 c2] _ rfl).alloc (.cells #[.int .i64 a.start, .slice A3 n3 c3, .slice A4 n4 c4] 31)
 have ba := Blk.new (w1.alloc (.cells #[.slice A1 n1 c1, .slice A2 n2 c2] 27)) 31 #[.int .i64 a.start, .slice A3 n3 c3, .slice A4 n4 c4] (w1.heap.size + 1) (by simp)
 have HGV := Lib.hid (hgv.keep hal)
 have HAV := Lib.hid (hav.keep hal)
 have HB := Lib.hid (below_trans hb1 hal)
 clear hal hgv hav hb1 HV
 go_upto_region 4 with fail
 generalize ((w1.alloc (.cells #[.slice A1 n1 c1, .slice A2 n2 c2] 27)).alloc (.cells #[.int .i64 a.start, .slice A3 n3 c3, .slice A4 n4 c4] 31)) = W at *
 have x0 : W.cell? ⟨w1.heap.size, 0, none⟩ = some (.slice A1 n1 c1) := by exact bg.cell 0
 have x1 : W.cell? ⟨w1.heap.size, 1, none⟩ = some (.slice A2 n2 c2) := by exact bg.cell 1
 have y0 : W.cell? ⟨w1.heap.size + 1, 0, none⟩ = some (.int .i64 a.start) := by exact ba.cell 0
 have y1 : W.cell? ⟨w1.heap.size + 1, 1, none⟩ = some (.slice A3 n3 c3) := by exact ba.cell 1
 have y2 : W.cell? ⟨w1.heap.size + 1, 2, none⟩ = some (.slice A4 n4 c4) := by exact ba.cell 2
 clear bg ba
 by_cases hs : 0 <= shortLen g a x y
 · obtain ⟨k, hk, hwit, hlen⟩ := lst_yes hs
   have HWIT := Lib.hid hwit
   have HLEN := Lib.hid hlen
   have HS := Lib.hid hs
   have hen : decide (shortLen g a x y >= 0) = true := by simpa using hs
   have hen2 : decide (0 <= shortLen g a x y) = true := by simpa using hs
   clear hwit hlen hs
   have HI := Lib.hid (hk ▸ implLeastWitness _ _ g a x y W HGV.out HAV.out)
   go_wp2_with fail
   refine HI.out.mono ?_
   rintro e w2 ⟨vw, rfl, hkw, hb2⟩
   clear HI
   simp only at hkw ⊢
   have hkv := hkw.view.mono (Nat.zero_le _) (Nat.le_refl _)
   obtain ⟨A5, c5, rfl, hl5, hm5, -⟩ := hkv.form
   obtain ⟨N, hN⟩ : ∃ N, N = k.2.length := ⟨_, rfl⟩
   rw [<- hN] at hkv hl5 ⊢
   have HN := Lib.hid hN
   have hal := (Below.refl w2.heap.size w2).alloc (Nat.le_refl _) (.cells #[.int .i64 k.1, .slice A5 N c5] 36)
   have bw := Blk.new w2 36 #[.int .i64 k.1, .slice A5 N c5] _ rfl
   have hbx := below_trans hb2 hal
   have x0 := kcell hbx x0
   have x1 := kcell hbx x1
   have y0 := kcell hbx y0
   have y1 := kcell hbx y1
   have y2 := kcell hbx y2
   have HGV := Lib.hid (HGV.out.keep hbx)
   have HAV := Lib.hid (HAV.out.keep hbx)
   have HKV := Lib.hid (hkv.keep hal)
   have HB := Lib.hid (below_trans HB.out hbx)
   clear hkw hkv hal hbx hb2 hN
   go_upto_region 5 with fail
   obtain ⟨wq, hwq⟩ : ∃ wq, wq = w2.heap.size := ⟨_, rfl⟩
   rw [<- hwq] at bw ⊢
   generalize (w2.alloc (.cells #[.int .i64 k.1, .slice A5 N c5] 36)) = W2 at *
   clear hwq
   have k0 : W2.cell? ⟨wq, 0, none⟩ = some (.int .i64 k.1) := by exact bw.cell 0
   have k1 : W2.cell? ⟨wq, 1, none⟩ = some (.slice A5 N c5) := by exact bw.cell 1
   clear bw
   have HI := Lib.hid (hk ▸ specLeastWitness _ _ g a x y W2 HGV.out HAV.out)
   go_wp2_with fail
   refine HI.out.mono ?_
   rintro e w3 ⟨vv, rfl, hkw, hb3⟩
   clear HI
   simp only at hkw ⊢
   have hkv := hkw.view.mono (Nat.zero_le _) (Nat.le_refl _)
   obtain ⟨A6, n6, c6, rfl⟩ := hkv.shape
   have hal := (Below.refl w3.heap.size w3).alloc (Nat.le_refl _) (.cells #[.int .i64 k.1, .slice A6 n6 c6] 36)
   have bw := Blk.new w3 36 #[.int .i64 k.1, .slice A6 n6 c6] _ rfl
   have hbx := below_trans hb3 hal
   have HKV2 := Lib.hid (hkv.keep hal)
   have x0 := kcell hbx x0
   have x1 := kcell hbx x1
   have y0 := kcell hbx y0
   have y1 := kcell hbx y1
   have y2 := kcell hbx y2
   have k0 := kcell hbx k0
   have k1 := kcell hbx k1
   have HGV := Lib.hid (HGV.out.keep hbx)
   have HAV := Lib.hid (HAV.out.keep hbx)
   have HKV := Lib.hid (HKV.out.keep hbx)
   have HB := Lib.hid (below_trans HB.out hbx)
   clear hkw hkv hal hbx hb3
   go_upto_region 6 with fail
   obtain ⟨vq, hvq⟩ : ∃ vq, vq = w3.heap.size := ⟨_, rfl⟩
   rw [<- hvq] at bw ⊢
   generalize (w3.alloc (.cells #[.int .i64 k.1, .slice A6 n6 c6] 36)) = W3 at *
   clear hvq
   have j0 : W3.cell? ⟨vq, 0, none⟩ = some (.int .i64 k.1) := by exact bw.cell 0
   have j1 : W3.cell? ⟨vq, 1, none⟩ = some (.slice A6 n6 c6) := by exact bw.cell 1
   clear bw
   go_wp2_with fail
   refine (implShortestLength _ _ g a x y _ HGV.out HAV.out).mono ?_
   rintro e w4 ⟨rfl, hb4⟩
   have HKV2 := Lib.hid (HKV2.out.keep hb4)
   have j0 := kcell hb4 j0
   have j1 := kcell hb4 j1
   have x0 := kcell hb4 x0
   have x1 := kcell hb4 x1
   have y0 := kcell hb4 y0
   have y1 := kcell hb4 y1
   have y2 := kcell hb4 y2
   have k0 := kcell hb4 k0
   have k1 := kcell hb4 k1
   have HGV := Lib.hid (HGV.out.keep hb4)
   have HAV := Lib.hid (HAV.out.keep hb4)
   have HKV := Lib.hid (HKV.out.keep hb4)
   have HB := Lib.hid (below_trans HB.out hb4)
   clear hb4
   go_wp2_with fail
   refine (implCompareWalks_same _ _ k _ HKV.out HKV2.out).mono ?_
   rintro e w5 ⟨rfl, hb5⟩
   have x0 := kcell hb5 x0
   have x1 := kcell hb5 x1
   have y0 := kcell hb5 y0
   have y1 := kcell hb5 y1
   have y2 := kcell hb5 y2
   have k0 := kcell hb5 k0
   have k1 := kcell hb5 k1
   have HGV := Lib.hid (HGV.out.keep hb5)
   have HAV := Lib.hid (HAV.out.keep hb5)
   have HKV := Lib.hid (HKV.out.keep hb5)
   have HB := Lib.hid (below_trans HB.out hb5)
   clear hb5 HKV2 j0 j1
   have HSS := Lib.hid (specShortestLength _ _ g a x y w5 HGV.out HAV.out)
   have HHA := Lib.hid (fun W (hgv : GrV 0 W.heap.size W (.agg #[.slice A1 n1 c1, .slice A2 n2 c2]) g) (hav : AuV 0 W.heap.size W (.agg #[.int .i64 a.start, .slice A3 n3 c3, .slice A4 n4 c4]) a) => hasAns_short g a x y ▸ specHasAnswer _ _ g a x y W hgv hav)
   obtain ⟨n, hn⟩ : ∃ n, n = shortLen g a x y := ⟨_, rfl⟩
   rw [<- hn] at HSS HHA hen hen2 ⊢
   have HNN := Lib.hid hn
   clear hn
   have hnn : (n != n) = false := by simp
   go_wp2_with fail
   refine HSS.out.mono ?_
   rintro e w6 ⟨rfl, hb6⟩
   have x0 := kcell hb6 x0
   have x1 := kcell hb6 x1
   have y0 := kcell hb6 y0
   have y1 := kcell hb6 y1
   have y2 := kcell hb6 y2
   have k0 := kcell hb6 k0
   have k1 := kcell hb6 k1
   have HGV := Lib.hid (HGV.out.keep hb6)
   have HAV := Lib.hid (HAV.out.keep hb6)
   have HKV := Lib.hid (HKV.out.keep hb6)
   have HB := Lib.hid (below_trans HB.out hb6)
   clear hb6 HSS
   go_wp2_with fail
   refine (HHA.out _ HGV.out HAV.out).mono ?_
   rintro e w7 ⟨rfl, hb7⟩
   have x0 := kcell hb7 x0
   have x1 := kcell hb7 x1
   have y0 := kcell hb7 y0
   have y1 := kcell hb7 y1
   have y2 := kcell hb7 y2
   have k0 := kcell hb7 k0
   have k1 := kcell hb7 k1
   have HGV := Lib.hid (HGV.out.keep hb7)
   have HAV := Lib.hid (HAV.out.keep hb7)
   have HKV := Lib.hid (HKV.out.keep hb7)
   have HB := Lib.hid (below_trans HB.out hb7)
   clear hb7 HHA
   have hN2 : n = (N : Int) := by rw [HNN.out, <- HLEN.out, HN.out]
   subst hN2
   have HCW := Lib.hid (show ∀ i : Int, i < (N : Int) -> cntWalks g a x y i = 0 from fun i hi => cntW_below (by rw [<- HNN.out]; exact hi))
   have HCS := Lib.hid (show cntWalks g a x y (N : Int) = cntShort g a x y by rw [HNN.out]; exact cntW_short HS.out)
   have hN60 : (N : Int) <= 59 := by rw [HNN.out]; exact shortLen_lt g a x y
   clear hen hen2 hnn
   go_wp2_with fail
   go_loopw [12] (fun ii wr => ∃ i : Nat, i <= N /\ ii = .int .i64 (i : Int) /\ Below w7.heap.size w7 wr) (fun ii _ => N - (intOf ii).toNat)
   case atStart => exact ⟨0, Nat.zero_le _, rfl, Below.refl _ _⟩
   case round =>
    obtain ⟨i, hi, rfl, hbr⟩ := hrel
    obtain ⟨wo, rfl⟩ : ∃ wo : World, wo = wr := ⟨_, rfl⟩
    have x0 := kcell hbr x0
    have x1 := kcell hbr x1
    have y0 := kcell hbr y0
    have y1 := kcell hbr y1
    have y2 := kcell hbr y2
    have k0 := kcell hbr k0
    have k1 := kcell hbr k1
    have HGV := Lib.hid (HGV.out.keep hbr)
    have HAV := Lib.hid (HAV.out.keep hbr)
    have HKV := Lib.hid (HKV.out.keep hbr)
    have HB := Lib.hid (below_trans HB.out hbr)
    by_cases hlt : i < N
    · have hii : (i : Int) < (N : Int) := by omega
      have HC := Lib.hid (show Calls Tryz.prog 14 #[.agg #[.slice A1 n1 c1, .slice A2 n2 c2], .agg #[.int .i64 a.start, .slice A3 n3 c3, .slice A4 n4 c4], .int .i64 x, .int .i64 y, .int .i64 (i : Int)] wo fun e w' => e = .returned (.int .i64 0) /\ Below wo.heap.size wo w' by
       have h := implCountWalks _ _ g a x y (i : Int) wo HGV.out HAV.out
       rwa [HCW.out _ hii] at h)
      go_wp2_with fail
      refine HC.out.mono ?_
      rintro e w8 ⟨rfl, hb8⟩
      have HB8 := Lib.hid (below_trans hbr hb8)
      clear hb8 HC
      go_wp2_with fail
      go_roundw
      case rel => exact ⟨i + 1, by omega, by go_num, HB8.out⟩
      case measure => simp [intOf]; omega
    · obtain rfl : i = N := by omega
      have hd := (Below.refl wo.heap.size wo).drew
      have HGVd := Lib.hid (HGV.out.keep hd)
      have HAVd := Lib.hid (HAV.out.keep hd)
      have HKVd := Lib.hid (HKV.out.keep hd)
      have HBd := Lib.hid (below_trans HB.out hd)
      clear hd hbr
      go_wp2_with fail
      refine F_start 35 (fun w' => w'.cell? ⟨w1.heap.size, 0, none⟩ = some (.slice A1 n1 c1) /\ w'.cell? ⟨w1.heap.size, 1, none⟩ = some (.slice A2 n2 c2) /\ w'.cell? ⟨w1.heap.size + 1, 0, none⟩ = some (.int .i64 a.start) /\ w'.cell? ⟨w1.heap.size + 1, 1, none⟩ = some (.slice A3 n3 c3) /\ w'.cell? ⟨w1.heap.size + 1, 2, none⟩ = some (.slice A4 n4 c4) /\ w'.cell? ⟨wq, 0, none⟩ = some (.int .i64 k.1) /\ w'.cell? ⟨wq, 1, none⟩ = some (.slice A5 i c5)) (by kernel_rfl) (by exact ⟨x0, x1, y0, y1, y2, k0, k1⟩) (fun hS inv => ?_)
      refine F_tk 0 inv ?_
      try simp only [tA,tB,tC,Act.put,tE,tF,tG]
      clear inv; intro inv
      refine F_tk 1 inv ?_
      try simp only [tA,tB,tC,Act.put,tE,tF,tG]
      clear inv; intro inv
      refine F_tk 2 inv ?_
      try simp only [tA,tB,tC,Act.put,tE,tF,tG]
      clear inv; intro inv
      refine F_tk 3 inv ?_
      try simp only [tA,tB,tC,Act.put,tE,tF,tG]
      clear inv; intro inv
      refine F_tk 4 inv ?_
      try simp only [tA,tB,tC,Act.put,tE,tF,tG]
      clear inv; intro inv
      refine F_tk 5 inv ?_
      try simp only [tA,tB,tC,Act.put,tE,tF,tG]
      clear inv; intro inv
      refine F_tk 6 inv ?_
      try simp only [tA,tB,tC,Act.put,tE,tF,tG]
      clear inv; intro inv
      refine F_tk 7 inv ?_
      try simp only [tA,tB,tC,Act.put,tE,tF,tG]
      clear inv; intro inv
      refine F_tk 8 inv ?_
      try simp only [tA,tB,tC,Act.put,tE,tF,tG]
      clear inv; intro inv
      refine F_tk 9 inv ?_
      try simp only [tA,tB,tC,Act.put,tE,tF,tG]
      clear inv; intro inv
      refine F_tk 10 inv ?_
      try simp only [tA,tB,tC,Act.put,tE,tF,tG]
      clear inv; intro inv
      clear x0 x1 y0 y1 y2 k0 k1
      refine F_oneH (i := 11) (by kernel_rfl) rfl (by rfl) (by omega) inv (fun K hK => ?_)
      try simp only [tA,tB,tC]
      go_simp
      refine (implIsWitness _ _ _ g a x y k _ HGVd.out HAVd.out HKVd.out).mono ?_
      rintro e w8 ⟨rfl, hb8⟩
      rw [HWIT.out]
      refine hK.out _ _ (kB7 hb8 hS) (fun _ _ => ?_)
      try simp only [tA,tB,tC,Act.put,tE,tF,tG]
      clear hK K inv hS; rename_i hS inv
      have HGVd := Lib.hid (HGVd.out.keep hb8)
      have HAVd := Lib.hid (HAVd.out.keep hb8)
      have HKVd := Lib.hid (HKVd.out.keep hb8)
      have HBd := Lib.hid (below_trans HBd.out hb8)
      clear hb8
      refine F_tk 12 inv ?_
      try simp only [tA,tB,tC,Act.put,tE,tF,tG]
      clear inv; intro inv
      refine F_tk 13 inv ?_
      try simp only [tA,tB,tC,Act.put,tE,tF,tG]
      clear inv; intro inv
      refine F_tk 14 inv ?_
      try simp only [tA,tB,tC,Act.put,tE,tF,tG]
      clear inv; intro inv
      refine F_tk 15 inv ?_
      try simp only [tA,tB,tC,Act.put,tE,tF,tG]
      clear inv; intro inv
      refine F_tk 16 inv ?_
      try simp only [tA,tB,tC,Act.put,tE,tF,tG]
      clear inv; intro inv
      refine F_tk 17 inv ?_
      try simp only [tA,tB,tC,Act.put,tE,tF,tG]
      clear inv; intro inv
      refine F_tk 18 inv ?_
      try simp only [tA,tB,tC,Act.put,tE,tF,tG]
      clear inv; intro inv
      refine F_oneH (i := 19) (by kernel_rfl) rfl (by rfl) (by omega) inv (fun K hK => ?_)
      try simp only [tA,tB,tC]
      go_simp
      refine (specIsWitness _ _ _ g a x y k _ HGVd.out HAVd.out HKVd.out).mono ?_
      rintro e w9 ⟨rfl, hb9⟩
      rw [HWIT.out]
      refine hK.out _ _ (kB7 hb9 hS) (fun _ _ => ?_)
      try simp only [tA,tB,tC,Act.put,tE,tF,tG]
      clear hK K inv hS; rename_i hS inv
      have HGVd := Lib.hid (HGVd.out.keep hb9)
      have HAVd := Lib.hid (HAVd.out.keep hb9)
      have HBd := Lib.hid (below_trans HBd.out hb9)
      clear hb9
      refine F_tk 20 inv ?_
      try simp only [tA,tB,tC,Act.put,tE,tF,tG]
      clear inv; intro inv
      refine F_tk 21 inv ?_
      try simp only [tA,tB,tC,Act.put,tE,tF,tG]
      clear inv; intro inv
      refine F_tk 22 inv ?_
      try simp only [tA,tB,tC,Act.put,tE,tF,tG]
      clear inv; intro inv
      refine F_tk 23 inv ?_
      try simp only [tA,tB,tC,Act.put,tE,tF,tG]
      clear inv; intro inv
      refine F_tk 24 inv ?_
      try simp only [tA,tB,tC,Act.put,tE,tF,tG]
      clear inv; intro inv
      refine F_tk 25 inv ?_
      try simp only [tA,tB,tC,Act.put,tE,tF,tG]
      clear inv; intro inv
      refine F_tk 26 inv ?_
      try simp only [tA,tB,tC,Act.put,tE,tF,tG]
      clear inv; intro inv
      refine F_tk 28 inv ?_
      try simp only [tA,tB,tC,Act.put,tE,tF,tG]
      clear inv; intro inv
      refine F_tk 29 inv ?_
      try simp only [tA,tB,tC,Act.put,tE,tF,tG]
      clear inv; intro inv
      refine F_tk 30 inv ?_
      try simp only [tA,tB,tC,Act.put,tE,tF,tG]
      clear inv; intro inv
      refine F_tk 31 inv ?_
      try simp only [tA,tB,tC,Act.put,tE,tF,tG]
      clear inv; intro inv
      refine F_oneH (i := 27) (by kernel_rfl) rfl (by rfl) (by omega) inv (fun K hK => ?_)
      try simp only [tA,tB,tC]
      go_simp
      refine (implCountWalks _ _ g a x y (i : Int) w9 HGVd.out HAVd.out).mono ?_
      rintro e w10 ⟨rfl, hb10⟩
      rw [HCS.out]
      refine hK.out _ _ (kB7 hb10 hS) (fun _ _ => ?_)
      try simp only [tA,tB,tC,Act.put,tE,tF,tG]
      clear hK K inv hS; rename_i hS inv
      have HGVd := Lib.hid (HGVd.out.keep hb10)
      have HAVd := Lib.hid (HAVd.out.keep hb10)
      have HBd := Lib.hid (below_trans HBd.out hb10)
      clear hb10
      refine F_oneH (i := 32) (by kernel_rfl) rfl (by rfl) (by omega) inv (fun K hK => ?_)
      try simp only [tA,tB,tC]
      go_simp
      refine (implCountShortest _ _ g a x y w10 HGVd.out HAVd.out).mono ?_
      rintro e w11 ⟨rfl, hb11⟩
      refine hK.out _ _ (kB7 hb11 hS) (fun _ _ => ?_)
      try simp only [tA,tB,tC,Act.put,tE,tF,tG]
      clear hK K inv hS; rename_i hS inv
      have HBd := Lib.hid (below_trans HBd.out hb11)
      clear hb11
      refine F_tk 33 inv ?_
      try simp only [tA,tB,tC,Act.put,tE,tF,tG]
      clear inv; intro inv
      refine F_tk 34 inv ?_
      try simp only [tA,tB,tC,Act.put,tE,tF,tG]
      clear inv; intro inv
      refine F_l1 35 ?_; intro K hK
      go_simp
      refine hK _ _ ?_
      clear hK K
      go_wp2_with fail
      go_ret
      exact ⟨rfl, HBd.out⟩
 · have hk := lst_no (show shortLen g a x y < 0 by omega)
   have hen : decide (shortLen g a x y >= 0) = false := by simpa using hs
   have hen2 : decide (0 <= shortLen g a x y) = false := by simpa using hs
   obtain ⟨k, hkk⟩ : ∃ k : Wk, k = (0, []) := ⟨_, rfl⟩
   rw [<- hkk] at hk
   clear hkk hs
   have HI := Lib.hid (hk ▸ implLeastWitness _ _ g a x y W HGV.out HAV.out)
   go_wp2_with fail
   refine HI.out.mono ?_
   rintro e w2 ⟨vw, rfl, hkw, hb2⟩
   clear HI
   simp only at hkw ⊢
   have hkv := hkw.view.mono (Nat.zero_le _) (Nat.le_refl _)
   obtain ⟨A5, c5, rfl, hl5, hm5, -⟩ := hkv.form
   obtain ⟨N, hN⟩ : ∃ N, N = k.2.length := ⟨_, rfl⟩
   rw [<- hN] at hkv hl5 ⊢
   have HN := Lib.hid hN
   have hal := (Below.refl w2.heap.size w2).alloc (Nat.le_refl _) (.cells #[.int .i64 k.1, .slice A5 N c5] 36)
   have bw := Blk.new w2 36 #[.int .i64 k.1, .slice A5 N c5] _ rfl
   have hbx := below_trans hb2 hal
   have x0 := kcell hbx x0
   have x1 := kcell hbx x1
   have y0 := kcell hbx y0
   have y1 := kcell hbx y1
   have y2 := kcell hbx y2
   have HGV := Lib.hid (HGV.out.keep hbx)
   have HAV := Lib.hid (HAV.out.keep hbx)
   have HKV := Lib.hid (hkv.keep hal)
   have HB := Lib.hid (below_trans HB.out hbx)
   clear hkw hkv hal hbx hb2 hN
   go_upto_region 5 with fail
   obtain ⟨wq, hwq⟩ : ∃ wq, wq = w2.heap.size := ⟨_, rfl⟩
   rw [<- hwq] at bw ⊢
   generalize (w2.alloc (.cells #[.int .i64 k.1, .slice A5 N c5] 36)) = W2 at *
   clear hwq
   have k0 : W2.cell? ⟨wq, 0, none⟩ = some (.int .i64 k.1) := by exact bw.cell 0
   have k1 : W2.cell? ⟨wq, 1, none⟩ = some (.slice A5 N c5) := by exact bw.cell 1
   clear bw
   have HI := Lib.hid (hk ▸ specLeastWitness _ _ g a x y W2 HGV.out HAV.out)
   go_wp2_with fail
   refine HI.out.mono ?_
   rintro e w3 ⟨vv, rfl, hkw, hb3⟩
   clear HI
   simp only at hkw ⊢
   have hkv := hkw.view.mono (Nat.zero_le _) (Nat.le_refl _)
   obtain ⟨A6, n6, c6, rfl⟩ := hkv.shape
   have hal := (Below.refl w3.heap.size w3).alloc (Nat.le_refl _) (.cells #[.int .i64 k.1, .slice A6 n6 c6] 36)
   have bw := Blk.new w3 36 #[.int .i64 k.1, .slice A6 n6 c6] _ rfl
   have hbx := below_trans hb3 hal
   have HKV2 := Lib.hid (hkv.keep hal)
   have x0 := kcell hbx x0
   have x1 := kcell hbx x1
   have y0 := kcell hbx y0
   have y1 := kcell hbx y1
   have y2 := kcell hbx y2
   have k0 := kcell hbx k0
   have k1 := kcell hbx k1
   have HGV := Lib.hid (HGV.out.keep hbx)
   have HAV := Lib.hid (HAV.out.keep hbx)
   have HKV := Lib.hid (HKV.out.keep hbx)
   have HB := Lib.hid (below_trans HB.out hbx)
   clear hkw hkv hal hbx hb3
   go_upto_region 6 with fail
   obtain ⟨vq, hvq⟩ : ∃ vq, vq = w3.heap.size := ⟨_, rfl⟩
   rw [<- hvq] at bw ⊢
   generalize (w3.alloc (.cells #[.int .i64 k.1, .slice A6 n6 c6] 36)) = W3 at *
   clear hvq
   have j0 : W3.cell? ⟨vq, 0, none⟩ = some (.int .i64 k.1) := by exact bw.cell 0
   have j1 : W3.cell? ⟨vq, 1, none⟩ = some (.slice A6 n6 c6) := by exact bw.cell 1
   clear bw
   go_wp2_with fail
   refine (implShortestLength _ _ g a x y _ HGV.out HAV.out).mono ?_
   rintro e w4 ⟨rfl, hb4⟩
   have HKV2 := Lib.hid (HKV2.out.keep hb4)
   have j0 := kcell hb4 j0
   have j1 := kcell hb4 j1
   have x0 := kcell hb4 x0
   have x1 := kcell hb4 x1
   have y0 := kcell hb4 y0
   have y1 := kcell hb4 y1
   have y2 := kcell hb4 y2
   have k0 := kcell hb4 k0
   have k1 := kcell hb4 k1
   have HGV := Lib.hid (HGV.out.keep hb4)
   have HAV := Lib.hid (HAV.out.keep hb4)
   have HKV := Lib.hid (HKV.out.keep hb4)
   have HB := Lib.hid (below_trans HB.out hb4)
   clear hb4
   go_wp2_with fail
   refine (implCompareWalks_same _ _ k _ HKV.out HKV2.out).mono ?_
   rintro e w5 ⟨rfl, hb5⟩
   have x0 := kcell hb5 x0
   have x1 := kcell hb5 x1
   have y0 := kcell hb5 y0
   have y1 := kcell hb5 y1
   have y2 := kcell hb5 y2
   have k0 := kcell hb5 k0
   have k1 := kcell hb5 k1
   have HGV := Lib.hid (HGV.out.keep hb5)
   have HAV := Lib.hid (HAV.out.keep hb5)
   have HKV := Lib.hid (HKV.out.keep hb5)
   have HB := Lib.hid (below_trans HB.out hb5)
   clear hb5 HKV2 j0 j1
   have HSS := Lib.hid (specShortestLength _ _ g a x y w5 HGV.out HAV.out)
   have HHA := Lib.hid (fun W (hgv : GrV 0 W.heap.size W (.agg #[.slice A1 n1 c1, .slice A2 n2 c2]) g) (hav : AuV 0 W.heap.size W (.agg #[.int .i64 a.start, .slice A3 n3 c3, .slice A4 n4 c4]) a) => hasAns_short g a x y ▸ specHasAnswer _ _ g a x y W hgv hav)
   obtain ⟨n, hn⟩ : ∃ n, n = shortLen g a x y := ⟨_, rfl⟩
   rw [<- hn] at HSS HHA hen hen2 ⊢
   have HNN := Lib.hid hn
   clear hn
   have hnn : (n != n) = false := by simp
   go_wp2_with fail
   refine HSS.out.mono ?_
   rintro e w6 ⟨rfl, hb6⟩
   have x0 := kcell hb6 x0
   have x1 := kcell hb6 x1
   have y0 := kcell hb6 y0
   have y1 := kcell hb6 y1
   have y2 := kcell hb6 y2
   have k0 := kcell hb6 k0
   have k1 := kcell hb6 k1
   have HGV := Lib.hid (HGV.out.keep hb6)
   have HAV := Lib.hid (HAV.out.keep hb6)
   have HKV := Lib.hid (HKV.out.keep hb6)
   have HB := Lib.hid (below_trans HB.out hb6)
   clear hb6 HSS
   go_wp2_with fail
   refine (HHA.out _ HGV.out HAV.out).mono ?_
   rintro e w7 ⟨rfl, hb7⟩
   have x0 := kcell hb7 x0
   have x1 := kcell hb7 x1
   have y0 := kcell hb7 y0
   have y1 := kcell hb7 y1
   have y2 := kcell hb7 y2
   have k0 := kcell hb7 k0
   have k1 := kcell hb7 k1
   have HGV := Lib.hid (HGV.out.keep hb7)
   have HAV := Lib.hid (HAV.out.keep hb7)
   have HKV := Lib.hid (HKV.out.keep hb7)
   have HB := Lib.hid (below_trans HB.out hb7)
   clear hb7 HHA
   go_wp2_with fail
   go_ret
   exact ⟨rfl, HB.out⟩
end Go.Proofs.YtcnenpjaoalmeaaGreat.fnWitnesses
namespace Go.Proofs.YtcnenpjaoalmeaaGreat.fnWitnesses
set_option linter.unusedVariables false
set_option linter.unusedSimpArgs false
open Go.ChangeShapes Go.WideShapes Go.ChangeAt Go.RowKit
theorem own : ownKnob Tryz.prog.godebug = none := by kernel_rfl
theorem laidOut : laidOutB Tryz.prog = true := by kernel_rfl
set_option maxRecDepth 100000 in
theorem lifted (os : Os) (started : os.Started) (H : Type) (enc : TypeId × Value -> H) :
 ReturnsInHanded {} Tryz.checked os 5 .any (Rows.fnWitnessesSpec.pre6 enc Tryz.prog Tryz.f5 Rows.fnWitnessesRow.domain false) (Rows.fnWitnessesSpec.post enc Tryz.prog Tryz.f5 false true false false) := by
 refine returnsInHanded_of_change (C := Tryz.checked) own started (by kernel_rfl) Tryz.func5
  (ChangeSpec.witness6 (enc := enc) (C := Tryz.checked) false ⟨#[], #[.slice none 0 0], []⟩ 8 (by kernel_rfl) (by kernel_rfl) (by kernel_rfl) (by kernel_rfl)) ?_
 intro W base args ds gs before hval0 hW hcnd _
 have hval : ∀ (j : Nat) t v, Tryz.f5.params[j]? = some t -> args[j]? = some v -> Value.okWide Tryz.prog W .any base t v := hval0
 have hW' := hW
 obtain ⟨p, q, hA0, hV, rfl, hfz, hnd⟩ := hW
 have hA : DataW.TrodAll enc Tryz.prog W 0 (fun _ => true) true Tryz.f5.params.toList args.toList ds p := hA0
 rw [Tryz.params5] at hA hval
 obtain ⟨v0, vs0, d0, ds0, p0, q0, hargs, rfl, rfl, h0, r0⟩ := trodAll_cons hA
 obtain ⟨rfl, rfl, rfl⟩ := trodAll_nil r0
 obtain rfl : args = #[v0] := by cases args; simp_all
 obtain ⟨rfl, rfl⟩ := trodVars_none hV
 obtain ⟨a0, w0⟩ := openBytes (hval 0 22 v0 rfl rfl) h0
 refine (walk W v0 a0 w0).mono fun e W' ⟨he, hb⟩ => ?_
 subst he
 exact ⟨_, rfl, law_post laidOut (by kernel_rfl) rfl Tryz.underlying4 rfl rfl hW' hb⟩
theorem unf : Tryz.pinned.checked.prog.unfollowed 5 = true := by kernel_rfl
theorem inpl : Tryz.pinned.checked.prog.inPlace 5 = [] := by kernel_rfl
theorem vnam : Tryz.pinned.checked.prog.varsNamed 5 = [] := by kernel_rfl
theorem rec_ : Tryz.pinned.checked.prog.recurses 5 = true := by rw [Program.recurses, unf, Bool.true_or]
theorem over : Rows.fnWitnessesRow.holds Tryz.pinned (OpenSpec.ofChange Rows.fnWitnessesSpec) :=
 OpenClaim.holds_of_wide 5 Tryz.f5 rfl rfl rfl rfl rfl rfl rfl ⟨rfl, rfl, rfl, rfl, rfl⟩ rfl rfl rfl rfl rfl (by kernel_rfl) Tryz.func5 (by unfold joinedFacts; rw [seat_mayEnter, seat_lifts, seat_laidOut, seat_mapsRowed, unf, rec_, inpl, vnam]; kernel_rfl)
  (of_decide_eq_true (by kernel_rfl)) (by unfold Func.isWrapper; first | (rw [if_pos (by decide +kernel)]; kernel_rfl) | (rw [if_neg (by decide +kernel)]; exact ⟨rfl, rfl⟩))
  (fun os started H enc _ => lifted os started H enc)
theorem proved : Rows.FnWitnessesSaid := over
end Go.Proofs.YtcnenpjaoalmeaaGreat.fnWitnesses
